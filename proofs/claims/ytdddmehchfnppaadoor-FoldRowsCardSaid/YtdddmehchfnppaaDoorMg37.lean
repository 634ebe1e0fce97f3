/- The walks of Packed and Wholes at numbers in any store. Conditions: as each theorem says. -/
import Derived.Test.YtdddmehchfnppaaDoorMg36
namespace Go.Proofs.YtdddmehchfnppaaDoor
open Go Go.RowKit Go.Proofs Fl

set_option maxRecDepth 100000 in
set_option maxHeartbeats 1000000 in
theorem wholes_bits (b : Value) (bn : Int) (s i f c x : Value) (n : Nat) (l : Nat → Int) (w : World) (hn : n ≤ 1000000)
    (hlen : ∀ w', Below w.heap.size w w' → Calls Tryd.prog 38 #[vecV 1 b bn s i f c x] w' fun e w2 => e = .returned (.int .i64 n) ∧ Below w'.heap.size w' w2)
    (hwh : ∀ w', Below w.heap.size w w' → ∀ j, j < n → Calls Tryd.prog 59 #[vecV 1 b bn s i f c x, .int .i64 (j : Nat)] w' fun e w2 => e = .returned (.tuple #[.int .i64 (l j), .bool true]) ∧ Below w'.heap.size w' w2) :
    Calls Tryd.prog 31 #[vecV 1 b bn s i f c x] w fun e w' => ∃ g, e = .returned (.tuple #[.slice (some ⟨g, 0, none⟩) n n, .bool true]) ∧ Own1 w' w.heap.size 2 (.slice (some ⟨g, 0, none⟩) n n) ((List.range n).map fun j => .int .i64 (l j)) ∧ Below w.heap.size w w' := by
  have HLN := Lib.hid hlen
  have HW := Lib.hid hwh
  have hmk := run_make_row' (P := Tryd.prog) 23 2 (.int .i64 0) 8 Tryd.underlying23 info_i64 rfl .i64 .i64 n (by omega) (by omega)
  clear hlen hwh
  go_enter Tryd.func31, Tryd.ntmps31
  go_wp2_with fail
  refine (HLN.out _ (bel1 w _)).mono ?_
  rintro e w1 ⟨rfl, hb1⟩
  have HB1 := Lib.hid (bel_both (bel1 w _) hb1)
  have HX1 := Lib.hid ((boxed_new w 35 1 b bn s i f c x).below hb1)
  clear hb1
  have HGN : Hid (w1.heap.size ≠ w.heap.size) := by have h1 := HX1.out.lt; show _ ≠ _; omega
  have HF0 := Lib.hid (Fill.made w1 w.heap.size HB1.out.size 2 (fun j => .int .i64 (l j)) (.int .i64 0) n (by unfold maxLen; omega))
  have HBM := Lib.hid (HB1.out.alloc HB1.out.size (.cells (madeCells #[.int .i64 0] n) 2))
  have HXM := Lib.hid (HX1.out.below (bel1 w1 (.cells (madeCells #[.int .i64 0] n) 2)))
  go_wp2_with fail
  go_loopw [21] (fun j wr => ∃ m : Nat, m ≤ n ∧ j = .int .i64 m ∧ Fill wr w.heap.size w1.heap.size 2 (fun j => .int .i64 (l j)) (.int .i64 0) n m ∧ Below w.heap.size w wr ∧ Boxed wr w.heap.size 1 b bn s i f c x) (fun j _ => n - (intOf j).toNat)
  case atStart => exact ⟨0, Nat.zero_le _, rfl, HF0.out, HBM.out, HXM.out⟩
  case round =>
    obtain ⟨m, hm, rfl, hf, hbl, hx⟩ := hrel
    have HF := Lib.hid hf
    have HBL := Lib.hid hbl
    have HX := Lib.hid hx
    clear hf hbl
    by_cases hlt : m < n
    · obtain ⟨h0, h1, h2, h3, h4, h5, h6, h7⟩ := hx
      go_wp2_with fail
      refine (HW.out _ HBL.out m hlt).mono ?_
      rintro e w3 ⟨rfl, hb3⟩
      have HF3 := Lib.hid (HF.out.below hb3)
      have HP3 := Lib.hid (HF3.out.put hlt)
      have HB3 := Lib.hid (HF3.out.bel (bel_both HBL.out hb3) m (.int .i64 (l m)))
      have HX3 := Lib.hid ((HX.out.below hb3).set (p := ⟨w1.heap.size, m, none⟩) HGN.out (.int .i64 (l m)))
      have hc3 := HF3.out.cell hlt
      have hz3 := HF3.out.frozen m
      clear hb3 h0 h1 h2 h3 h4 h5 h6 h7
      generalize l m = z at *
      go_wp2
      go_roundw
      case rel => exact ⟨m + 1, by omega, by go_num, HP3.out, HB3.out, HX3.out⟩
      case measure => simp [intOf]; omega
    · obtain rfl : m = n := by omega
      clear hx
      go_wp2
      go_ret2
      exact ⟨_, rfl, HF.out.own, HBL.out⟩

set_option maxRecDepth 100000 in
set_option maxHeartbeats 1000000 in
theorem wholes_3 (b : Value) (bn : Int) (s i f c x : Value) (xs : List Value) (w : World) (hr : Reads1 w i xs) (hl : xs.length ≤ 1000000) (h1 : ∀ u ∈ xs, u.oneCell' = true) :
    Calls Tryd.prog 31 #[vecV 3 b bn s i f c x] w fun e w' => ∃ v, e = .returned (.tuple #[v, .bool true]) ∧ Own1 w' w.heap.size 2 v xs ∧ Below w.heap.size w w' := by
  have HCL := Lib.hid (cl64_any (hr.below (bel1 w (.cells #[.int .i64 3, b, .int .i64 bn, s, i, f, c, x] 35))) (by omega) h1)
  clear hr h1
  go_enter Tryd.func31, Tryd.ntmps31
  go_wp2_with fail
  refine HCL.out.mono ?_
  rintro e w1 ⟨v, rfl, ho, hb⟩
  have HO := Lib.hid (Own1.lower ho (show w.heap.size ≤ _ by simp))
  have HB := Lib.hid (bel_both (bel1 w _) hb)
  clear ho hb
  go_wp2
  go_ret2
  exact ⟨_, rfl, HO.out, HB.out⟩

set_option maxHeartbeats 400000 in
theorem wholes_4 (b : Value) (bn : Int) (s i f c x : Value) (w : World) :
    Calls Tryd.prog 31 #[vecV 4 b bn s i f c x] w fun e w' => e = .returned (.tuple #[.slice none 0 0, .bool false]) ∧ Below w.heap.size w w' := by
  go_enter Tryd.func31, Tryd.ntmps31
  go_wp2
  go_ret2
  exact ⟨rfl, bel1 _ _⟩

set_option maxHeartbeats 400000 in
theorem packed_yes (a : Sl) (bn : Int) (s i f c x : Value) (w : World) :
    Calls Tryd.prog 29 #[vecV 1 (.slice a.1 a.2.1 a.2.2) bn s i f c x] w fun e w' => e = .returned (.tuple #[.agg #[.slice a.1 a.2.1 a.2.2, .int .i64 bn], .bool true]) ∧ Below w.heap.size w w' := by
  have HK := Lib.hid (heap_alloc_new (w.alloc (.cells #[.int .i64 1, .slice a.1 a.2.1 a.2.2, .int .i64 bn, s, i, f, c, x] 35)) (.cells #[.slice a.1 a.2.1 a.2.2, .int .i64 bn] 30))
  go_enter Tryd.func29, Tryd.ntmps29
  go_wp2
  refine bodyPost_ret (v := .tuple #[.agg #[.slice a.1 a.2.1 a.2.2, .int .i64 bn], .bool true]) ?_ rfl ⟨rfl, bel2 _ _ _⟩
  exact ret_bits2 (fn := Tryd.f29) (p := 2) (u := 3) rfl _ _ (w.heap.size + 1) (by rfl) (by have h := HK.out; simpa using h)

theorem own_cell {w : World} {B : Nat} {e : TypeId} {g n c : Nat} {F : Nat → Value} (h : Own1 w B e (.slice (some ⟨g, 0, none⟩) n c) ((List.range n).map F)) (j : Nat) (hj : j < n) : w.cell? ⟨g, j, none⟩ = some (F j) := by
  obtain ⟨a, c2, e1, hc⟩ := reads_at h.reads
  injection e1 with e1 _ _
  obtain ⟨b', o', e3, h3⟩ := hc j hj
  rw [e3] at e1
  injection e1 with e1
  injection e1 with ea eb _
  subst ea; subst eb
  rw [Nat.zero_add] at h3
  exact h3

/-- numbers in a store, the truths of packed ones and the whole ones of the great store with them -/
structure NumX (k : Int) (b : Sl) (bn : Int) (s i f c x : Sl) (n : Nat) (F : Nat → Nat) (w : World) : Prop where
  num : NumV (vecW k b bn s i f c x) k n F w
  bits : k = 1 → ∃ l, BitsIn w (.agg #[.slice b.1 b.2.1 b.2.2, .int .i64 bn]) n l ∧ ∀ j, j < n → F j = fi (bI (l j))
  ints : k = 3 → Reads1 w (.slice i.1 i.2.1 i.2.2) ((List.range n).map fun j => .int .i64 (zOf (F j)))

/-- what Wholes tells of a store of whole numbers -/
def WhX (n : Nat) (F : Nat → Nat) (w : World) (e : Ending) (w' : World) : Prop :=
  ∃ b o c, e = .returned (.tuple #[.slice (some ⟨b, o, none⟩) n c, .bool true]) ∧ (∀ j, j < n → w'.cell? ⟨b, o + j, none⟩ = some (.int .i64 (zOf (F j)))) ∧ Below w.heap.size w w'
theorem wholes_any (k : Int) (b : Sl) (bn : Int) (s i f c x : Sl) (n : Nat) (F : Nat → Nat) (w : World) (hk : k ≠ 4) (hn : n ≤ 1000000) (h3 : k = 3 → 0 < n) (hN : ∀ W, Below w.heap.size w W → NumX k b bn s i f c x n F W) :
    Calls Tryd.prog 31 #[vecW k b bn s i f c x] w (WhX n F w) := by
  have h0 := hN w (Below.refl _ _)
  have hz : ∀ j, j < n → ∃ z, Good z ∧ F j = fi z ∧ zOf (F j) = z := fun j hj => by
    obtain ⟨z, hg, e⟩ := h0.num.ints hk j hj
    exact ⟨z, hg, e, by rw [e]; exact zOf_of (wholeP_fi hg)⟩
  rcases h0.num.kind with rfl | rfl | rfl | rfl
  · refine (wholes_bits _ _ _ _ _ _ _ n (fun j => zOf (F j)) w hn (fun W hw => (hN W hw).num.len) (fun W hw j hj => ?_)).mono ?_
    · obtain ⟨z, hg, e, e2⟩ := hz j hj
      rw [e2]
      exact (hN W hw).num.wholeI hk j hj z hg e
    · rintro e w1 ⟨g, rfl, ho, hb⟩
      exact ⟨g, 0, n, rfl, fun j hj => by
        have h := own_cell ho j hj
        rw [Nat.zero_add]; exact h, hb⟩
  · refine (wholes_small _ _ _ _ _ _ _ n (fun j => zOf (F j)) w hn (fun W hw => (hN W hw).num.len) (fun W hw j hj => ?_)).mono ?_
    · obtain ⟨z, hg, e, e2⟩ := hz j hj
      rw [e2]
      exact (hN W hw).num.wholeI hk j hj z hg e
    · rintro e w1 ⟨g, rfl, ho, hb⟩
      exact ⟨g, 0, n, rfl, fun j hj => by
        have h := own_cell ho j hj
        rw [Nat.zero_add]; exact h, hb⟩
  · refine (wholes_3 _ _ _ _ _ _ _ _ w (h0.ints rfl) (by simpa using hn) (fun u hu => by
      obtain ⟨j, _, rfl⟩ := List.mem_map.1 hu
      rfl)).mono ?_
    rintro e w1 ⟨v, rfl, ho, hb⟩
    obtain ⟨a, c2, rfl, hc⟩ := reads_at ho.reads
    obtain ⟨b2, o2, rfl, _⟩ := hc 0 (h3 rfl)
    refine ⟨b2, o2, c2, rfl, fun j hj => ?_, hb⟩
    obtain ⟨b', o', e, h⟩ := hc j hj
    injection e with e
    injection e with e1 e2 _
    subst e1; subst e2
    exact h
  · exact absurd rfl hk
end Go.Proofs.YtdddmehchfnppaaDoor
