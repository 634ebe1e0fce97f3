/- Merged texts. The walk of logic.Truths. Conditions: as each theorem says. The walk of logic.Apply at numbers in any stores, at least one. Conditions: as each theorem says. -/
import Derived.Test.YtdddmehchfnppaaGreatDoorMg35
import Derived.Test.YtdddmehchfnppaaGreatDoorMg21
namespace Go.Proofs.YtdddmehchfnppaaGreatDoor
open Go Go.RowKit Go.Proofs Fl

/-- what logic.Truths tells: the truths, or that one is none -/
def TsOut (m : Nat) (F : Nat → Nat) (w : World) (e : Ending) (w' : World) : Prop :=
  ((∀ j, j < m → isT (F j) = true) ∧ ∃ (b : Sl) (L : Nat → Bool), e = .returned (.tuple #[.agg #[.slice b.1 b.2.1 b.2.2, .int .i64 (m : Int)], .bool true]) ∧ BitsAt w' b m L ∧ (∀ j, j < m → F j = flagF (L j)) ∧ Below w.heap.size w w') ∨
  ((∃ j, j < m ∧ isT (F j) = false) ∧ e = .returned (.tuple #[.agg #[vnil, .int .i64 0], .bool false]) ∧ Below w.heap.size w w')
theorem fit1_iff {m : Nat} {F : Nat → Nat} : fitB 1 F m = true ↔ ∀ j, j < m → isT (F j) = true := by
  unfold fitB
  rw [if_pos rfl]
  exact all_range
theorem fit1_bad {m : Nat} {F : Nat → Nat} (h : fitB 1 F m = false) : ∃ j, j < m ∧ isT (F j) = false := by
  rcases first_bad (fun j => isT (F j)) m with hall | ⟨K, hK, hb, _⟩
  · rw [fit1_iff.2 hall] at h; cases h
  · exact ⟨K, hK, hb⟩
theorem isT_of_bits {k : Int} {b : Sl} {bn : Int} {s i f g x : Sl} {m : Nat} {F : Nat → Nat} {w : World} (hk : 1 = k) (h : NumV (vecW k b bn s i f g x) k m F w) : fitB 1 F m = true := by
  subst hk
  obtain ⟨_, L, _, hf⟩ := h.bits
  exact fit1_iff.2 fun j hj => by rw [hf j hj]; cases L j <;> decide

set_option maxRecDepth 100000 in
set_option maxHeartbeats 1000000 in
theorem truths_any (p : V8) (m : Nat) (F : Nat → Nat) (w : World) (hm : m ≤ 1000000) (hv : Keeps (fun _ => False) w (NumV p.v p.k m F)) :
    Calls Tryz.prog 101 #[p.v] w (TsOut m F w) := by
  have HI := Lib.hid (fun W (hb : Below w.heap.size w W) (hz : w.heap.size + 1 < W.heap.size) => into_num (fun j => j = w.heap.size + 1) 1 p.k p.b p.bn p.s p.i p.f p.c p.x m F W (fun j h => by omega) hm (hv.below' hb _ (fun j hj h => by omega)) (.inl rfl) (fun e => isT_of_bits e (hv.step hb).now))
  have HC := Lib.hid (fun W (hb : Below w.heap.size w W) => ((hv.step hb).now).cls)
  have HS0 := Lib.hid (Sb.new w p)
  unfold Sub at HI
  clear hv
  go_enter Tryz.func101, Tryz.ntmps101
  obtain ⟨h0, h1, h2, h3, h4, h5, h6, h7⟩ := HS0.out.one
  go_wp2_with fail
  refine (HI.out _ HS0.out.bel HS0.out.sz).mono ?_
  rintro e w1 ⟨k, b, bn, s, i, f, c, x, t, rfl, hk, hb1⟩
  have HS1 := Lib.hid (HS0.out.step hb1)
  have HK := Lib.hid hk
  clear hb1 hk h0 h1 h2 h3 h4 h5 h6 h7
  have HS2 := Lib.hid (HS1.out.step (bel1 w1 (.cells #[.int .i64 k, .slice b.1 b.2.1 b.2.2, .int .i64 bn, .slice s.1 s.2.1 s.2.2, .slice i.1 i.2.1 i.2.2, .slice f.1 f.2.1 f.2.2, .slice c.1 c.2.1 c.2.2, .slice x.1 x.2.1 x.2.2] 32)))
  have HX2 := Lib.hid (boxed_new w1 32 k (.slice b.1 b.2.1 b.2.2) bn (.slice s.1 s.2.1 s.2.2) (.slice i.1 i.2.1 i.2.2) (.slice f.1 f.2.1 f.2.2) (.slice c.1 c.2.1 c.2.2) (.slice x.1 x.2.1 x.2.2))
  have z1 : w.heap.size + 1 < w1.heap.size := HS1.out.sz
  cases t with
  | false =>
    have HBAD := Lib.hid (fit1_bad HK.out.now.1.symm)
    have HKE := Lib.hid (set2_block HS1.out.res vnil (.int .i64 0))
    obtain ⟨hk0, hk1, hkf⟩ := pair_of HS1.out.res
    go_wp2
    refine bodyPost_ret (v := .tuple #[.agg #[vnil, .int .i64 0], .bool false]) ?_ rfl (.inr ⟨HBAD.out, rfl, bel_both (below_set2 HS1.out.bel (Nat.le_succ _) _ _) (bel1 _ _)⟩)
    exact ret_bits2 (fn := Tryz.f101) (p := 2) (u := 3) rfl _ _ (w.heap.size + 1) (by rfl) ((Below.heap_alloc _ _ _ (lt_of_block HKE.out)).trans HKE.out)
  | true =>
    have HALL := Lib.hid (fit1_iff.1 HK.out.now.1.symm)
    have HKN : Hid (Keeps (fun j => j = w.heap.size + 1) w1 (NumV (vecW k b bn s i f c x) 1 m F)) := HK.out.imp fun W h => h.2.1 rfl
    obtain rfl : k = 1 := HKN.out.now.kindEq
    obtain ⟨h0, h1, h2, h3, h4, h5, h6, h7⟩ := HS2.out.one
    go_wp2_with fail
    refine (HC.out _ HS2.out.bel).mono ?_
    rintro e w3 ⟨rfl, hb3⟩
    have HS3 := Lib.hid (HS2.out.step hb3)
    have HX3 := Lib.hid (HX2.out.below hb3)
    have HK3 := Lib.hid ((HKN.out.step (bel1 w1 (.cells #[.int .i64 1, .slice b.1 b.2.1 b.2.2, .int .i64 bn, .slice s.1 s.2.1 s.2.2, .slice i.1 i.2.1 i.2.2, .slice f.1 f.2.1 f.2.2, .slice c.1 c.2.1 c.2.2, .slice x.1 x.2.1 x.2.2] 32))).step hb3)
    clear hb3 h0 h1 h2 h3 h4 h5 h6 h7
    obtain ⟨h0, h1, h2, h3, h4, h5, h6, h7⟩ := HX3.out
    go_wp2_with fail
    refine (packed_yes b bn _ _ _ _ _ _).mono ?_
    rintro e w4 ⟨rfl, hb4⟩
    have HS4 := Lib.hid (HS3.out.step hb4)
    have HK4 := Lib.hid (HK3.out.step hb4)
    clear hb4 h0 h1 h2 h3 h4 h5 h6 h7
    have HKS : Hid (Keeps (fun j => j = w.heap.size + 1) (set2 w4 (w.heap.size + 1) (.slice b.1 b.2.1 b.2.2) (.int .i64 bn)) (NumV (vecW 1 b bn s i f c x) 1 m F)) := (HK4.out.set rfl _).set rfl _
    obtain ⟨rfl, L, hL, hF⟩ := HKS.out.now.bits
    have HF := Lib.hid hF
    have HLE := Lib.hid hL
    have HKE := Lib.hid (set2_block HS4.out.res (.slice b.1 b.2.1 b.2.2) (.int .i64 (m : Int)))
    have HBE := Lib.hid (below_set2 HS4.out.bel (Nat.le_succ _) (.slice b.1 b.2.1 b.2.2) (.int .i64 (m : Int)))
    clear hL hF
    obtain ⟨hk0, hk1, hkf⟩ := pair_of HS4.out.res
    go_wp2
    refine bodyPost_ret (v := .tuple #[.agg #[.slice b.1 b.2.1 b.2.2, .int .i64 (m : Int)], .bool true]) ?_ rfl (.inl ⟨HALL.out, b, L, rfl, HLE.out, HF.out, HBE.out⟩)
    exact ret_bits2 (fn := Tryz.f101) (p := 2) (u := 3) rfl _ _ (w.heap.size + 1) (by rfl) HKE.out
end Go.Proofs.YtdddmehchfnppaaGreatDoor
namespace Go.Proofs.YtdddmehchfnppaaGreatDoor
open Go Go.RowKit Go.Proofs Fl

theorem tabN_rel (f : Int) (hf : 21 ≤ f) (hf2 : f ≤ 24) (a b : Bool) : (tabN f).testBit (2 * a.toNat + b.toNat) = logB f a b := by
  refine int4 (P := fun f => (tabN f).testBit (2 * a.toNat + b.toNat) = logB f a b) f hf hf2 ?_ ?_ ?_ ?_
  all_goals cases a <;> cases b <;> decide
theorem tabN_lt (f : Int) : tabN f < 16 := by unfold tabN; split; decide; split; decide; split <;> decide
theorem tv_flag (t : Bool) : tv (flagF t) = t := by cases t <;> decide
/-- packed truths lie in no variable that holds a header -/
theorem BitsAt.set2 {W : World} {b : Sl} {n : Nat} {L : Nat → Bool} (h : BitsAt W b n L) {V : Nat} {a : Option Addr} {l c : Nat} {z : Int} {e : TypeId} (hV : W.heap[V]? = some (.cells #[.slice a l c, .int .i64 z] e)) (u0 u1 : Value) : BitsAt (Go.Proofs.YtdddmehchfnppaaGreatDoor.set2 W V u0 u1) b n L := by
  obtain ⟨g, o, cc, e1, hc⟩ := h
  refine ⟨g, o, cc, e1, fun j hj => ?_⟩
  have hcj := hc j hj
  have hne : g ≠ V := by
    rintro rfl
    rw [cell_of_row _ g (o + j) _ e (0, 0) hV] at hcj
    match hoj : o + j with
    | 0 => rw [hoj] at hcj; simp at hcj
    | 1 => rw [hoj] at hcj; simp at hcj
    | k + 2 => rw [hoj] at hcj; simp at hcj
  rw [← hcj]
  exact World.cell?_of_block (by rw [Below.heap_setCell _ _ _ _ hne, Below.heap_setCell _ _ _ _ hne])

/-- what a function of truths of two lists tells -/
def Lg2Out (H : Nat → Prop) (w : World) (TT R : Nat → Bool) (r : Option Nat) (e : Ending) (w' : World) : Prop :=
  (r = none ∧ e = .returned (.tuple #[vecV 0 vnil 0 vnil vnil vnil vnil vnil, .int .i64 23]) ∧ Below w.heap.size w w') ∨
  (∃ N, r = some N ∧ (((∀ c, c < N → TT c = true) ∧ VecOk H w (fun u W => NumV u 1 N (fun c => flagF (R c)) W) e w') ∨ ((∃ c, c < N ∧ TT c = false) ∧ e = .returned (.tuple #[vecV 0 vnil 0 vnil vnil vnil vnil vnil, .int .i64 24]) ∧ Below w.heap.size w w')))

set_option maxRecDepth 100000 in
set_option maxHeartbeats 4000000 in
theorem lapply_none (H : Nat → Prop) (f : Int) (hf : 21 ≤ f) (hf2 : f ≤ 24) (p q : V8) (m n : Nat) (TT R : Nat → Bool) (w : World) (hL : lenP m n = none)
    (hLP : ∀ W, Below w.heap.size w W → Calls Tryz.prog 39 #[p.v] W fun e w2 => e = .returned (.int .i64 (m : Nat)) ∧ Below W.heap.size W w2)
    (hLQ : ∀ W, Below w.heap.size w W → Calls Tryz.prog 39 #[q.v] W fun e w2 => e = .returned (.int .i64 (n : Nat)) ∧ Below W.heap.size W w2) :
    Calls Tryz.prog 53 #[.int .i64 f, p.v, q.v] w (Lg2Out H w TT R (lenP m n)) := by
  have HLP := Lib.hid (fun W (hs : St2 w W p q) => hLP W hs.bel)
  have HLQ := Lib.hid (fun W (hs : St2 w W p q) => hLQ W hs.bel)
  have HTB := Lib.hid (fun W => table_any f hf hf2 W)
  have HLL := Lib.hid (fun W => length_any m n W)
  have HS0 := Lib.hid (St2.new w p q)
  clear hLP hLQ
  obtain ⟨L, ok, hL1, hL2⟩ : ∃ L ok, L = (lenP m n).getD 0 ∧ ok = (lenP m n).isSome := ⟨_, _, rfl, rfl⟩
  rw [← hL1, ← hL2] at HLL
  obtain rfl : ok = false := by rw [hL2, hL]; rfl
  have HLN := Lib.hid hL
  clear hL1 hL2 hL
  go_enter Tryz.func53, Tryz.ntmps53
  go_wp2_with fail
  refine (HTB.out _).mono ?_
  rintro e w9 ⟨rfl, hw9⟩
  rw [hw9] at HS0
  clear hw9
  go_wp2_with fail
  go_cut [9, 10] from 24 (fun y x wx => LenMid w p q L false x y wx)
  case first =>
    have hs0 := HS0.out.dr
    have hs00 := HS0.out
    go_region_held3 (fun W => ((W.cell? ⟨w.heap.size, 0, none⟩ = some (.int .i64 p.k) ∧ W.cell? ⟨w.heap.size, 1, none⟩ = some (.slice p.b.1 p.b.2.1 p.b.2.2) ∧ W.cell? ⟨w.heap.size, 2, none⟩ = some (.int .i64 p.bn) ∧ W.cell? ⟨w.heap.size, 3, none⟩ = some (.slice p.s.1 p.s.2.1 p.s.2.2) ∧ W.cell? ⟨w.heap.size, 4, none⟩ = some (.slice p.i.1 p.i.2.1 p.i.2.2) ∧ W.cell? ⟨w.heap.size, 5, none⟩ = some (.slice p.f.1 p.f.2.1 p.f.2.2) ∧ W.cell? ⟨w.heap.size, 6, none⟩ = some (.slice p.c.1 p.c.2.1 p.c.2.2) ∧ W.cell? ⟨w.heap.size, 7, none⟩ = some (.slice p.x.1 p.x.2.1 p.x.2.2)) ∧ (W.cell? ⟨w.heap.size + 1, 0, none⟩ = some (.int .i64 q.k) ∧ W.cell? ⟨w.heap.size + 1, 1, none⟩ = some (.slice q.b.1 q.b.2.1 q.b.2.2) ∧ W.cell? ⟨w.heap.size + 1, 2, none⟩ = some (.int .i64 q.bn) ∧ W.cell? ⟨w.heap.size + 1, 3, none⟩ = some (.slice q.s.1 q.s.2.1 q.s.2.2) ∧ W.cell? ⟨w.heap.size + 1, 4, none⟩ = some (.slice q.i.1 q.i.2.1 q.i.2.2) ∧ W.cell? ⟨w.heap.size + 1, 5, none⟩ = some (.slice q.f.1 q.f.2.1 q.f.2.2) ∧ W.cell? ⟨w.heap.size + 1, 6, none⟩ = some (.slice q.c.1 q.c.2.1 q.c.2.2) ∧ W.cell? ⟨w.heap.size + 1, 7, none⟩ = some (.slice q.x.1 q.x.2.1 q.x.2.2))) ∧ St2 w W p q)
      (first | (with_reducible assumption) | (with_reducible (refine st2_s ?_); repeat (first | (with_reducible assumption) | (with_reducible refine St2.dr ?_))))
      (first
        | (go_at_call 92; (with_reducible refine (HLL.out _).mono ?_); rintro e w5 ⟨rfl, rfl⟩)
        | (go_at_call 39; (with_reducible refine (HLP.out _ ?_).mono ?_); exact St2.self (by repeat (first | (with_reducible assumption) | (with_reducible refine St2.dr ?_))); rintro e w1 ⟨rfl, hb1⟩; obtain ⟨hc1, hf1⟩ := bcell2 hb1; have hz1 := hb1.size; have hst1 : St2 w w1 p q := St2.step (by repeat (first | (with_reducible assumption) | (with_reducible refine St2.dr ?_))) hb1; clear hb1)
        | (go_at_call 39; (with_reducible refine (HLQ.out _ ?_).mono ?_); exact St2.self (by repeat (first | (with_reducible assumption) | (with_reducible refine St2.dr ?_))); rintro e w2 ⟨rfl, hb2⟩; obtain ⟨hc2, hf2⟩ := bcell2 hb2; have hz2 := hb2.size; have hst2 : St2 w w2 p q := St2.step (by repeat (first | (with_reducible assumption) | (with_reducible refine St2.dr ?_))) hb2; clear hb2))
    all_goals
      go_wp2
      go_meet
      first
        | (with_reducible exact lenMid_of hst2)
        | (with_reducible exact lenMid_of hst1)
  obtain ⟨rfl, rfl, hst⟩ := hcut
  have HST := Lib.hid hst
  clear hst HS0 HLP HLQ HLL HTB
  obtain ⟨⟨h0, h1, h2, h3, h4, h5, h6, h7⟩, hz⟩ := boxed_of HST.out.res
  go_wp2
  refine bodyPost_ret (v := .tuple #[vecV 0 vnil 0 vnil vnil vnil vnil vnil, .int .i64 23]) ?_ rfl (.inl ⟨HLN.out, rfl, below_set8 HST.out.bel (Nat.le_add_right _ 2) _ _ _ _ _ _ _ _⟩)
  exact ret_vec2 (fn := Tryz.f53) (p := 6) (u := 7) rfl _ _ (w.heap.size + 2) (by rfl) (set8_block HST.out.res _ _ _ _ _ _ _ _)

set_option maxRecDepth 100000 in
set_option maxHeartbeats 4000000 in
theorem lapply_some (H : Nat → Prop) (f : Int) (hf : 21 ≤ f) (hf2 : f ≤ 24) (p q : V8) (m n : Nat) (TT R : Nat → Bool) (w : World) (N : Nat) (F G : Nat → Nat) (hH : ∀ b, H b → b < w.heap.size) (hL : lenP m n = some N) (hN0 : 0 < N) (hNb : N ≤ 1000000)
    (hSP : ∀ W, Below w.heap.size w W → Calls Tryz.prog 101 #[p.v] W fun e w' => ((∃ (b : Sl) (L : Nat → Bool), e = .returned (.tuple #[.agg #[.slice b.1 b.2.1 b.2.2, .int .i64 (N : Int)], .bool true]) ∧ BitsAt w' b N L ∧ (∀ j, j < N → F j = flagF (L j)) ∧ Below W.heap.size W w') ∨ ((∃ c, c < N ∧ TT c = false) ∧ e = .returned (.tuple #[.agg #[vnil, .int .i64 0], .bool false]) ∧ Below W.heap.size W w')))
    (hSQ : ∀ W, Below w.heap.size w W → Calls Tryz.prog 101 #[q.v] W fun e w' => ((∃ (b : Sl) (L : Nat → Bool), e = .returned (.tuple #[.agg #[.slice b.1 b.2.1 b.2.2, .int .i64 (N : Int)], .bool true]) ∧ BitsAt w' b N L ∧ (∀ j, j < N → G j = flagF (L j)) ∧ Below W.heap.size W w') ∨ ((∃ c, c < N ∧ TT c = false) ∧ e = .returned (.tuple #[.agg #[vnil, .int .i64 0], .bool false]) ∧ Below W.heap.size W w')))
    (hTT : ∀ c, c < N → ∀ L1 L2 : Nat → Bool, (∀ j, j < N → F j = flagF (L1 j)) → (∀ j, j < N → G j = flagF (L2 j)) → TT c = true)
    (hTR : ∀ (W : World) (b1 b2 : Sl) (L1 L2 : Nat → Bool), BitsAt W b1 N L1 → BitsAt W b2 N L2 → (∀ j, j < N → F j = flagF (L1 j)) → (∀ j, j < N → G j = flagF (L2 j)) → Calls Tryz.prog 97 #[.int .u8 ((tabN f : Nat) : Int), .agg #[.slice b1.1 b1.2.1 b1.2.2, .int .i64 (N : Int)], .agg #[.slice b2.1 b2.2.1 b2.2.2, .int .i64 (N : Int)]] W fun e w' => ∃ g, e = .returned (.tuple #[.agg #[.slice (some ⟨g, 0, none⟩) ((N + 63) / 64) ((N + 63) / 64), .int .i64 (N : Int)], .bool true]) ∧ RowU w' W.heap.size g ((N + 63) / 64) (packW R N) ∧ Below W.heap.size W w')
    (hLP : ∀ W, Below w.heap.size w W → Calls Tryz.prog 39 #[p.v] W fun e w2 => e = .returned (.int .i64 (m : Nat)) ∧ Below W.heap.size W w2)
    (hLQ : ∀ W, Below w.heap.size w W → Calls Tryz.prog 39 #[q.v] W fun e w2 => e = .returned (.int .i64 (n : Nat)) ∧ Below W.heap.size W w2) :
    Calls Tryz.prog 53 #[.int .i64 f, p.v, q.v] w (Lg2Out H w TT R (lenP m n)) := by
  have HLP := Lib.hid (fun W (hs : St2 w W p q) => hLP W hs.bel)
  have HLQ := Lib.hid (fun W (hs : St2 w W p q) => hLQ W hs.bel)
  have HTB := Lib.hid (fun W => table_any f hf hf2 W)
  have HLL := Lib.hid (fun W => length_any m n W)
  have HS0 := Lib.hid (St2.new w p q)
  clear hLP hLQ
  obtain ⟨L, ok, hL1, hL2⟩ : ∃ L ok, L = (lenP m n).getD 0 ∧ ok = (lenP m n).isSome := ⟨_, _, rfl, rfl⟩
  rw [← hL1, ← hL2] at HLL
  obtain rfl : ok = true := by rw [hL2, hL]; rfl
  obtain rfl : N = L := by rw [hL1, hL]; rfl
  have HLN := Lib.hid hL
  have HH := Lib.hid hH
  have HSP := Lib.hid hSP
  have HSQ := Lib.hid hSQ
  have HTR := Lib.hid hTR
  have HNB := Lib.hid hNb
  have n0 : ((N : Int) == 0) = false := by simp; omega
  have nn : ((N : Int) != (N : Int)) = false := by simp
  clear hL1 hL2 hL hH hSP hSQ hTR hNb hN0
  go_enter Tryz.func53, Tryz.ntmps53
  go_wp2_with fail
  refine (HTB.out _).mono ?_
  rintro e w9 ⟨rfl, hw9⟩
  rw [hw9] at HS0
  clear hw9
  go_wp2_with fail
  go_cut [9, 10] from 24 (fun y x wx => LenMid w p q N true x y wx)
  case first =>
    have hs0 := HS0.out.dr
    have hs00 := HS0.out
    go_region_held3 (fun W => ((W.cell? ⟨w.heap.size, 0, none⟩ = some (.int .i64 p.k) ∧ W.cell? ⟨w.heap.size, 1, none⟩ = some (.slice p.b.1 p.b.2.1 p.b.2.2) ∧ W.cell? ⟨w.heap.size, 2, none⟩ = some (.int .i64 p.bn) ∧ W.cell? ⟨w.heap.size, 3, none⟩ = some (.slice p.s.1 p.s.2.1 p.s.2.2) ∧ W.cell? ⟨w.heap.size, 4, none⟩ = some (.slice p.i.1 p.i.2.1 p.i.2.2) ∧ W.cell? ⟨w.heap.size, 5, none⟩ = some (.slice p.f.1 p.f.2.1 p.f.2.2) ∧ W.cell? ⟨w.heap.size, 6, none⟩ = some (.slice p.c.1 p.c.2.1 p.c.2.2) ∧ W.cell? ⟨w.heap.size, 7, none⟩ = some (.slice p.x.1 p.x.2.1 p.x.2.2)) ∧ (W.cell? ⟨w.heap.size + 1, 0, none⟩ = some (.int .i64 q.k) ∧ W.cell? ⟨w.heap.size + 1, 1, none⟩ = some (.slice q.b.1 q.b.2.1 q.b.2.2) ∧ W.cell? ⟨w.heap.size + 1, 2, none⟩ = some (.int .i64 q.bn) ∧ W.cell? ⟨w.heap.size + 1, 3, none⟩ = some (.slice q.s.1 q.s.2.1 q.s.2.2) ∧ W.cell? ⟨w.heap.size + 1, 4, none⟩ = some (.slice q.i.1 q.i.2.1 q.i.2.2) ∧ W.cell? ⟨w.heap.size + 1, 5, none⟩ = some (.slice q.f.1 q.f.2.1 q.f.2.2) ∧ W.cell? ⟨w.heap.size + 1, 6, none⟩ = some (.slice q.c.1 q.c.2.1 q.c.2.2) ∧ W.cell? ⟨w.heap.size + 1, 7, none⟩ = some (.slice q.x.1 q.x.2.1 q.x.2.2))) ∧ St2 w W p q)
      (first | (with_reducible assumption) | (with_reducible (refine st2_s ?_); repeat (first | (with_reducible assumption) | (with_reducible refine St2.dr ?_))))
      (first
        | (go_at_call 92; (with_reducible refine (HLL.out _).mono ?_); rintro e w5 ⟨rfl, rfl⟩)
        | (go_at_call 39; (with_reducible refine (HLP.out _ ?_).mono ?_); exact St2.self (by repeat (first | (with_reducible assumption) | (with_reducible refine St2.dr ?_))); rintro e w1 ⟨rfl, hb1⟩; obtain ⟨hc1, hf1⟩ := bcell2 hb1; have hz1 := hb1.size; have hst1 : St2 w w1 p q := St2.step (by repeat (first | (with_reducible assumption) | (with_reducible refine St2.dr ?_))) hb1; clear hb1)
        | (go_at_call 39; (with_reducible refine (HLQ.out _ ?_).mono ?_); exact St2.self (by repeat (first | (with_reducible assumption) | (with_reducible refine St2.dr ?_))); rintro e w2 ⟨rfl, hb2⟩; obtain ⟨hc2, hf2⟩ := bcell2 hb2; have hz2 := hb2.size; have hst2 : St2 w w2 p q := St2.step (by repeat (first | (with_reducible assumption) | (with_reducible refine St2.dr ?_))) hb2; clear hb2))
    all_goals
      go_wp2
      go_meet
      first
        | (with_reducible exact lenMid_of hst2)
        | (with_reducible exact lenMid_of hst1)
  obtain ⟨rfl, rfl, hst⟩ := hcut
  have HST := Lib.hid hst
  clear hst HS0 HLP HLQ HLL HTB
  obtain ⟨h0, h1, h2, h3, h4, h5, h6, h7⟩ := HST.out.one
  go_wp2_with fail
  refine (HSP.out _ HST.out.bel).mono ?_
  clear h0 h1 h2 h3 h4 h5 h6 h7
  rintro e w6 (⟨b1, L1, rfl, hat1, hf1, hb6⟩ | ⟨hbad, rfl, hb6⟩)
  · have HS7 := Lib.hid ((HST.out.step hb6).al (.cells #[.slice b1.1 b1.2.1 b1.2.2, .int .i64 (N : Int)] 26))
    have HAT1 := Lib.hid (hat1.below (bel1 w6 (.cells #[.slice b1.1 b1.2.1 b1.2.2, .int .i64 (N : Int)] 26)))
    have HV1 := Lib.hid (heap_alloc_new w6 (.cells #[.slice b1.1 b1.2.1 b1.2.2, .int .i64 (N : Int)] 26))
    have HF1 := Lib.hid hf1
    clear hb6 hat1 hf1
    obtain ⟨h0, h1, h2, h3, h4, h5, h6, h7⟩ := HS7.out.two
    go_wp2_with fail
    refine (HSQ.out _ HS7.out.bel).mono ?_
    clear h0 h1 h2 h3 h4 h5 h6 h7
    rintro e w7 (⟨b2, L2, rfl, hat2, hf2', hb7⟩ | ⟨hbad, rfl, hb7⟩)
    · have HA1 := Lib.hid ((HAT1.out.below hb7).below (bel1 w7 (.cells #[.slice b2.1 b2.2.1 b2.2.2, .int .i64 (N : Int)] 26)))
      have HA2 := Lib.hid (hat2.below (bel1 w7 (.cells #[.slice b2.1 b2.2.1 b2.2.2, .int .i64 (N : Int)] 26)))
      have HF2 := Lib.hid hf2'
      have HS8 := Lib.hid ((HS7.out.step hb7).al (.cells #[.slice b2.1 b2.2.1 b2.2.2, .int .i64 (N : Int)] 26))
      have HV2 := Lib.hid (heap_alloc_new w7 (.cells #[.slice b2.1 b2.2.1 b2.2.2, .int .i64 (N : Int)] 26))
      have HV1' := Lib.hid (show (w7.alloc (.cells #[.slice b2.1 b2.2.1 b2.2.2, .int .i64 (N : Int)] 26)).heap[w6.heap.size]? = some (.cells #[.slice b1.1 b1.2.1 b1.2.2, .int .i64 (N : Int)] 26) by rw [Below.heap_alloc _ _ _ (by have := hb7.size; have := lt_of_block HV1.out; omega), hb7.block _ (lt_of_block HV1.out)]; exact HV1.out)
      clear hb7 hat2 hf2'
      obtain ⟨hv0, hv1, hvf⟩ := pair_of HV1'.out
      go_wp2_with fail
      refine (blen_any _ _ _).mono ?_
      rintro e w8 ⟨rfl, hb8⟩
      have HS9 := Lib.hid (HS8.out.step hb8)
      have HB1 := Lib.hid (HA1.out.below hb8)
      have HB2 := Lib.hid (HA2.out.below hb8)
      have HW1 := Lib.hid (show w8.heap[w6.heap.size]? = some (.cells #[.slice b1.1 b1.2.1 b1.2.2, .int .i64 (N : Int)] 26) by rw [hb8.block _ (lt_of_block HV1'.out)]; exact HV1'.out)
      have HW2 := Lib.hid (show w8.heap[w7.heap.size]? = some (.cells #[.slice b2.1 b2.2.1 b2.2.2, .int .i64 (N : Int)] 26) by rw [hb8.block _ (lt_of_block HV2.out)]; exact HV2.out)
      clear hb8 hv0 hv1 hvf HS8 HA1 HA2 HV1 HV2 HV1'
      obtain ⟨hv0, hv1, hvf⟩ := pair_of HW2.out
      go_wp2_with fail
      refine (blen_any _ _ _).mono ?_
      rintro e w9 ⟨rfl, hb9⟩
      have HS10 := Lib.hid (HS9.out.step hb9)
      have HX1 := Lib.hid (show w9.heap[w6.heap.size]? = some (.cells #[.slice b1.1 b1.2.1 b1.2.2, .int .i64 (N : Int)] 26) by rw [hb9.block _ (lt_of_block HW1.out)]; exact HW1.out)
      have HX2 := Lib.hid (show w9.heap[w7.heap.size]? = some (.cells #[.slice b2.1 b2.2.1 b2.2.2, .int .i64 (N : Int)] 26) by rw [hb9.block _ (lt_of_block HW2.out)]; exact HW2.out)
      have HT := Lib.hid (HTR.out w9 b1 b2 L1 L2 (HB1.out.below hb9) (HB2.out.below hb9) HF1.out HF2.out)
      have HALL : Hid (∀ c, c < N → TT c = true) := fun c hc => hTT c hc L1 L2 HF1.out HF2.out
      clear hb9 hv0 hv1 hvf HS9 HB1 HB2 HW1 HW2
      obtain ⟨hv0, hv1, hvf⟩ := pair_of HX1.out
      obtain ⟨hu0, hu1, huf⟩ := pair_of HX2.out
      go_wp2_with fail
      refine HT.out.mono ?_
      rintro e w10 ⟨g8, rfl, hr, hb⟩
      have HS11 := Lib.hid ((HS10.out.step hb).al (.cells #[.slice (some ⟨g8, 0, none⟩) ((N + 63) / 64) ((N + 63) / 64), .int .i64 (N : Int)] 26))
      have HR11 := Lib.hid (hr.below (bel1 w10 (.cells #[.slice (some ⟨g8, 0, none⟩) ((N + 63) / 64) ((N + 63) / 64), .int .i64 (N : Int)] 26)))
      have HW0 := Lib.hid HS10.out.sz
      clear hr hb hv0 hv1 hvf hu0 hu1 huf HX1 HX2 HT
      go_wp2_with fail
      refine (vbits_any _ _ _ _ _).mono ?_
      rintro e w12 ⟨rfl, hb12⟩
      have HS12 := Lib.hid (HS11.out.step hb12)
      have HR12 := Lib.hid (HR11.out.below hb12)
      clear hb12
      have HRE := Lib.hid (set8_block HS12.out.res (.int .i64 1) (.slice (some ⟨g8, 0, none⟩) ((N + 63) / 64) ((N + 63) / 64)) (.int .i64 (N : Int)) vnil vnil vnil vnil vnil)
      have HBE := Lib.hid (below_set8 HS12.out.bel (Nat.le_add_right _ 2) (.int .i64 1) (.slice (some ⟨g8, 0, none⟩) ((N + 63) / 64) ((N + 63) / 64)) (.int .i64 (N : Int)) vnil vnil vnil vnil vnil)
      have HKE : Hid (Keeps H (set8 w12 (w.heap.size + 2) (.int .i64 1) (.slice (some ⟨g8, 0, none⟩) ((N + 63) / 64) ((N + 63) / 64)) (.int .i64 (N : Int)) vnil vnil vnil vnil vnil) (NumV (vecW 1 (some ⟨g8, 0, none⟩, (N + 63) / 64, (N + 63) / 64) (N : Int) (none, 0, 0) (none, 0, 0) (none, 0, 0) (none, 0, 0) (none, 0, 0)) 1 N (fun c => flagF (R c)))) := by
        have h1 : Keeps (fun j => H j ∨ j = w.heap.size + 2) w12 (fun W => Reads1 W (.slice (some ⟨g8, 0, none⟩) ((N + 63) / 64) ((N + 63) / 64)) ((List.range ((N + 63) / 64)).map fun j => .int .u64 (packW R N j : Nat))) :=
          Own1.keepsH HR12.out (fun j e => by
            have h2 := HW0.out
            rcases e with e | e
            · have := HH.out j e; omega
            · omega)
        refine ((h1.imp fun W' h => numV_bits (by have := HNB.out; omega) ⟨_, rfl, ⟨g8, 0, _, rfl, fun j hj => ?_⟩⟩).set8 (.inr rfl) _ _ _ _ _ _ _ _).sub fun _ _ e => .inl e
        exact reads_cell h j hj
      clear HR11 HR12
      obtain ⟨⟨h0, h1, h2, h3, h4, h5, h6, h7⟩, hz⟩ := boxed_of HS12.out.res
      go_wp2
      refine bodyPost_ret (v := .tuple #[vecW 1 (some ⟨g8, 0, none⟩, (N + 63) / 64, (N + 63) / 64) (N : Int) (none, 0, 0) (none, 0, 0) (none, 0, 0) (none, 0, 0) (none, 0, 0), .int .i64 0]) ?_ rfl (.inr ⟨_, HLN.out, .inl ⟨HALL.out, 1, (some ⟨g8, 0, none⟩, (N + 63) / 64, (N + 63) / 64), (N : Int), (none, 0, 0), (none, 0, 0), (none, 0, 0), (none, 0, 0), (none, 0, 0), rfl, HKE.out, HBE.out⟩⟩)
      exact ret_vec2 (fn := Tryz.f53) (p := 6) (u := 7) rfl _ _ (w.heap.size + 2) (by rfl) HRE.out
    · have HS8 := Lib.hid ((HS7.out.step hb7).al (.cells bcells 26))
      have HBAD := Lib.hid hbad
      clear hb7 hbad
      obtain ⟨⟨h0, h1, h2, h3, h4, h5, h6, h7⟩, hz⟩ := boxed_of HS8.out.res
      go_wp2
      refine bodyPost_ret (v := .tuple #[vecV 0 vnil 0 vnil vnil vnil vnil vnil, .int .i64 24]) ?_ rfl (.inr ⟨_, HLN.out, .inr ⟨HBAD.out, rfl, below_set8 HS8.out.bel (Nat.le_add_right _ 2) _ _ _ _ _ _ _ _⟩⟩)
      exact ret_vec2 (fn := Tryz.f53) (p := 6) (u := 7) rfl _ _ (w.heap.size + 2) (by rfl) (set8_block HS8.out.res _ _ _ _ _ _ _ _)
  · have HS7 := Lib.hid ((HST.out.step hb6).al (.cells bcells 26))
    have HBAD := Lib.hid hbad
    clear hb6 hbad
    obtain ⟨h0, h1, h2, h3, h4, h5, h6, h7⟩ := HS7.out.two
    go_wp2_with fail
    refine (HSQ.out _ HS7.out.bel).mono ?_
    clear h0 h1 h2 h3 h4 h5 h6 h7
    rintro e w7 (⟨b2, L2, rfl, hat2, hf2', hb7⟩ | ⟨hbad, rfl, hb7⟩)
    · have HS8 := Lib.hid ((HS7.out.step hb7).al (.cells #[.slice b2.1 b2.2.1 b2.2.2, .int .i64 (N : Int)] 26))
      clear hb7 hat2 hf2'
      obtain ⟨⟨h0, h1, h2, h3, h4, h5, h6, h7⟩, hz⟩ := boxed_of HS8.out.res
      go_wp2
      refine bodyPost_ret (v := .tuple #[vecV 0 vnil 0 vnil vnil vnil vnil vnil, .int .i64 24]) ?_ rfl (.inr ⟨_, HLN.out, .inr ⟨HBAD.out, rfl, below_set8 HS8.out.bel (Nat.le_add_right _ 2) _ _ _ _ _ _ _ _⟩⟩)
      exact ret_vec2 (fn := Tryz.f53) (p := 6) (u := 7) rfl _ _ (w.heap.size + 2) (by rfl) (set8_block HS8.out.res _ _ _ _ _ _ _ _)
    · have HS8 := Lib.hid ((HS7.out.step hb7).al (.cells bcells 26))
      clear hb7 hbad
      obtain ⟨⟨h0, h1, h2, h3, h4, h5, h6, h7⟩, hz⟩ := boxed_of HS8.out.res
      go_wp2
      refine bodyPost_ret (v := .tuple #[vecV 0 vnil 0 vnil vnil vnil vnil vnil, .int .i64 24]) ?_ rfl (.inr ⟨_, HLN.out, .inr ⟨HBAD.out, rfl, below_set8 HS8.out.bel (Nat.le_add_right _ 2) _ _ _ _ _ _ _ _⟩⟩)
      exact ret_vec2 (fn := Tryz.f53) (p := 6) (u := 7) rfl _ _ (w.heap.size + 2) (by rfl) (set8_block HS8.out.res _ _ _ _ _ _ _ _)

/-- logic.Apply at two lists of one length, at least one element each -/
theorem lapply_same (H : Nat → Prop) (f : Int) (hf : 21 ≤ f) (hf2 : f ≤ 24) (p q : V8) (N : Nat) (F G : Nat → Nat) (w : World) (hH : ∀ b, H b → b < w.heap.size) (hN0 : 0 < N) (hNb : N ≤ 1000000)
    (hP : Keeps (fun _ => False) w (NumV p.v p.k N F)) (hQ : Keeps (fun _ => False) w (NumV q.v q.k N G)) :
    Calls Tryz.prog 53 #[.int .i64 f, p.v, q.v] w (Lg2Out H w (fun c => isT (F c) && isT (G c)) (fun c => logB f (tv (F c)) (tv (G c))) (some N)) := by
  have hL : lenP N N = some N := if_pos rfl
  rw [← hL]
  refine lapply_some H f hf hf2 p q N N _ _ w N F G hH hL hN0 hNb (fun W hb => (truths_any p N F W hNb (hP.step hb)).mono ?_) (fun W hb => (truths_any q N G W hNb (hQ.step hb)).mono ?_) (fun c hc L1 L2 e1 e2 => ?_) (fun W b1 b2 L1 L2 h1 h2 e1 e2 => ?_) (fun W hb => (hP.step hb).now.len) (fun W hb => (hQ.step hb).now.len)
  · rintro e w' (⟨_, b, L, rfl, h1, h2, hb⟩ | ⟨⟨j, hj, h⟩, rfl, hb⟩)
    · exact .inl ⟨b, L, rfl, h1, h2, hb⟩
    · exact .inr ⟨⟨j, hj, by rw [h]; rfl⟩, rfl, hb⟩
  · rintro e w' (⟨_, b, L, rfl, h1, h2, hb⟩ | ⟨⟨j, hj, h⟩, rfl, hb⟩)
    · exact .inl ⟨b, L, rfl, h1, h2, hb⟩
    · exact .inr ⟨⟨j, hj, by rw [h, Bool.and_false]⟩, rfl, hb⟩
  · show (isT (F c) && isT (G c)) = true
    rw [e1 c hc, e2 c hc]
    cases L1 c <;> cases L2 c <;> decide
  · obtain ⟨g1, o1, c1, rfl, hc1⟩ := h1
    obtain ⟨g2, o2, c2, rfl, hc2⟩ := h2
    refine (btruth_any (tabN f) (tabN_lt f) g1 o1 c1 g2 o2 c2 N L1 L2 W (by omega) hc1 hc2).mono ?_
    rintro e w' ⟨g, rfl, hr, hb⟩
    refine ⟨g, rfl, hr.same fun j _ => packW_congr (fun i hi => ?_) j, hb⟩
    rw [tabN_rel f hf hf2, e1 i hi, e2 i hi, tv_flag, tv_flag]
end Go.Proofs.YtdddmehchfnppaaGreatDoor
