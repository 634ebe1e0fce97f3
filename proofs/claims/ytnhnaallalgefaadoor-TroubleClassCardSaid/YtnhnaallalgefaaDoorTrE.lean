/- Troubles made and read: Raise, Through, made, Names, the reference's Text and Texts, small. Conditions: as each theorem says. -/
import Derived.Test.YtnhnaallalgefaaDoorTrD
namespace Go.Proofs.YtnhnaallalgefaaDoor
open Go Go.RowKit Go.Proofs

/-- a slice of strings that reads as a list -/
def Sts (w : World) (v : Value) (ss : List ByteArray) : Prop := Reads1 w v (ss.map Value.string)

theorem Sts.open_ {w : World} {v : Value} {ss : List ByteArray} (h : Sts w v ss) : ∃ A cc n, v = .slice A n cc ∧ n = ss.length ∧
    ∀ i (hi : i < ss.length), ∃ b o, A = some ⟨b, o, none⟩ ∧ ∀ w1, Below w.heap.size w w1 → w1.cell? ⟨b, o + i, none⟩ = some (.string ss[i]) := by
  unfold Sts at h
  obtain ⟨A, cc, hv⟩ := h.len
  rw [List.length_map] at hv
  refine ⟨A, cc, _, hv, rfl, fun i hi => ?_⟩
  obtain ⟨b, o, c2, hv2, hc⟩ := h.cells (fun e => by rw [List.map_eq_nil_iff] at e; subst e; simp at hi)
  rw [hv] at hv2
  have hA : A = some ⟨b, o, none⟩ := by injection hv2
  refine ⟨b, o, hA, fun w1 hb => ?_⟩
  have := hc i (by simpa using hi)
  rw [hb.cell (cell_lt this), this]
  simp

theorem Sts.below {w w' : World} {v : Value} {ss : List ByteArray} (h : Sts w v ss) (hb : Below w.heap.size w w') : Sts w' v ss := Reads1.below h hb

theorem Below.drewN {B : Nat} {a w : World} (h : Below B a w) (k : Nat) : Below B a (w.drewN k) := ⟨h.os, h.tape, h.output, h.size, h.block⟩

theorem raise0_walk (a : Int) (w : World) : Calls Tryd.prog 72 #[.int .i64 0, .int .i64 a] w fun e w' => e = .returned .nilIface ∧ w' = w := by
  go_enter Tryd.func72, Tryd.ntmps72
  go_wp2
  go_ret
  exact ⟨rfl, rfl⟩

theorem raise_walk (c a : Int) (hc : c ≠ 0) (w : World) : Calls Tryd.prog 72 #[.int .i64 c, .int .i64 a] w fun e w' => ∃ v, e = .returned v ∧ Chain w' c a v [] ∧ Below w.heap.size w w' := by
  have HW : Hid (Chain (w.alloc (.cells #[.int .i64 c, .int .i64 a] 66)) c a (.iface 60 (.pointer (some ⟨w.heap.size, 0, none⟩))) []) :=
    ⟨w.heap.size, rfl, by rw [World.cell?_alloc_at _ _ _ _ (by simp)]; rfl, by rw [World.cell?_alloc_at _ _ _ _ (by simp)]; rfl⟩
  go_enter Tryd.func72, Tryd.ntmps72
  go_wp2
  go_ret
  exact ⟨_, rfl, HW.out, (Below.refl _ w).alloc (Nat.le_refl _) _⟩

theorem through0_walk (n : ByteArray) (w : World) : Calls Tryd.prog 73 #[.string n, .nilIface] w fun e w' => e = .returned .nilIface ∧ w' = w := by
  have h0 : ∀ w, (binOp .eql 48 .nilIface .nilIface).run Tryd.prog w = .ok (.bool true) w := fun w => by kernel_rfl
  go_enter Tryd.func73, Tryd.ntmps73
  go_wp2
  go_ret
  exact ⟨rfl, rfl⟩

theorem through_walk (n : ByteArray) (c a : Int) (v : Value) (ns : List ByteArray) (w : World) (h : Chain w c a v ns) :
    Calls Tryd.prog 73 #[.string n, v] w fun e w' => ∃ v', e = .returned v' ∧ Chain w' c a v' (n :: ns) ∧ Below w.heap.size w w' := by
  obtain ⟨t, x, rfl⟩ := h.notNil
  have h0 := Tb.eqlNil
  have HB : Hid (Below w.heap.size w (w.alloc (.cells #[.string n, .iface t x] 71))) := (Below.refl _ w).alloc (Nat.le_refl _) _
  have HW : Hid (Chain (w.alloc (.cells #[.string n, .iface t x] 71)) c a (.iface 61 (.pointer (some ⟨w.heap.size, 0, none⟩))) (n :: ns)) :=
    ⟨w.heap.size, _, rfl, by rw [World.cell?_alloc_at _ _ _ _ (by simp)]; rfl, by rw [World.cell?_alloc_at _ _ _ _ (by simp)]; rfl, h.below HB.out⟩
  clear h
  go_enter Tryd.func73, Tryd.ntmps73
  go_wp2
  go_ret
  exact ⟨_, rfl, HW.out, HB.out⟩

set_option maxRecDepth 100000 in
theorem made0_walk (a : Int) (v : Value) (ss : List ByteArray) (w : World) (hs : Sts w v ss) (hl : ss.length ≤ 1000) :
    Calls Tryd.prog 31 #[.int .i64 0, .int .i64 a, v] w fun e w' => e = .returned .nilIface ∧ w' = w := by
  obtain ⟨A, cc, n, rfl, hn, hc⟩ := hs.open_
  have HC := Lib.hid hc
  have HN := Lib.hid hn
  have hl' : n ≤ 1000 := by omega
  clear hc hs hn hl
  go_enter Tryd.func31, Tryd.ntmps31
  go_wp2_with fail
  refine (raise0_walk a _).mono ?_
  rintro e w' ⟨rfl, rfl⟩
  go_wp2
  go_loop [7, 8] (fun v i => ∃ k : Nat, k ≤ n ∧ i = .int .i64 ((k : Int) - 1) ∧ v = .nilIface) (fun _ i => (intOf i + 1).toNat)
  case atStart => exact ⟨n, Nat.le_refl _, by go_num, rfl⟩
  case round =>
    obtain ⟨k, hk, rfl, rfl⟩ := hrel
    by_cases h0 : k = 0
    · subst h0
      go_wp2
      go_ret
      exact ⟨rfl, rfl⟩
    · obtain ⟨j, rfl⟩ : ∃ j, k = j + 1 := ⟨k - 1, by omega⟩
      obtain ⟨b, o, rfl, hcell⟩ := HC.out j (by have := HN.out; omega)
      have hce := hcell w' (Below.refl _ _)
      go_wp2_with fail
      refine (through0_walk _ _).mono ?_
      rintro e w' ⟨rfl, rfl⟩
      go_wp2
      go_round
      case rel => exact ⟨j, by omega, by go_num, rfl⟩
      case measure => simp [intOf]

theorem drop_cons (ss : List ByteArray) (j : Nat) (h : j < ss.length) : ss.drop j = ss[j] :: ss.drop (j + 1) := List.drop_eq_getElem_cons h

set_option maxRecDepth 100000 in
theorem made_walk (c a : Int) (hc0 : c ≠ 0) (v : Value) (ss : List ByteArray) (w : World) (hs : Sts w v ss) (hl : ss.length ≤ 1000) :
    Calls Tryd.prog 31 #[.int .i64 c, .int .i64 a, v] w fun e w' => ∃ v', e = .returned v' ∧ Chain w' c a v' ss ∧ Below w.heap.size w w' := by
  obtain ⟨A, cc, n, rfl, hn, hc⟩ := hs.open_
  have HC := Lib.hid hc
  have HN := Lib.hid hn
  have hl' : n ≤ 1000 := by omega
  obtain ⟨B, hB⟩ : ∃ B, B = w.heap.size := ⟨_, rfl⟩
  have HB := Lib.hid hB
  rw [← hB]
  clear hc hs hn hl hB
  go_enter Tryd.func31, Tryd.ntmps31
  go_wp2_with fail
  refine (raise_walk c a hc0 _).mono ?_
  rintro e w1 ⟨v1, rfl, hch1, hb1⟩
  have HCH1 : Hid (Chain w1 c a v1 (ss.drop n)) := by rw [HN.out, List.drop_length]; exact hch1
  have HB1 : Hid (Below B w w1) := by rw [HB.out]; exact hb1
  clear hch1 hb1
  go_wp2
  go_loopw [7, 8] (fun v i wr => ∃ k : Nat, k ≤ n ∧ i = .int .i64 ((k : Int) - 1) ∧ Chain wr c a v (ss.drop k) ∧ Below B w wr) (fun _ i _ => (intOf i + 1).toNat)
  case atStart => exact ⟨n, Nat.le_refl _, by go_num, HCH1.out, HB1.out⟩
  case round =>
    obtain ⟨k, hk, rfl, hch, hbl⟩ := hrel
    by_cases h0 : k = 0
    · subst h0
      have HCH : Hid (Chain _ c a _ ss) := hch
      have HBL := Lib.hid hbl
      clear hch hbl
      go_wp2
      go_ret
      exact ⟨_, rfl, HCH.out, HBL.out⟩
    · obtain ⟨j, rfl⟩ : ∃ j, k = j + 1 := ⟨k - 1, by omega⟩
      have hj : j < ss.length := by have := HN.out; omega
      obtain ⟨b, o, rfl, hcell⟩ := HC.out j hj
      have hce := hcell _ (by rw [← HB.out]; exact hbl)
      have HTH := Lib.hid (through_walk ss[j] c a _ (ss.drop (j + 1)) _ hch)
      have hBw : B ≤ wr.heap.size := by rw [HB.out]; exact hbl.size
      have HBL := Lib.hid hbl
      have HD := Lib.hid (drop_cons ss j hj)
      clear hch hbl hcell
      generalize ss[j] = sj at *
      go_wp2_with fail
      refine HTH.out.mono ?_
      rintro e w2 ⟨v2, rfl, hch2, hb2⟩
      have HCH2 : Hid (Chain w2 c a v2 (ss.drop j)) := by rw [HD.out]; exact hch2
      have HB2 : Hid (Below B w w2) := HBL.out.trans (hb2.mono hBw)
      clear hch2 hb2
      go_wp2
      go_roundw
      case rel => exact ⟨j, by omega, by go_num, HCH2.out, HB2.out⟩
      case measure => simp [intOf]

/-- are names few and short? -/
def smallB (ss : List ByteArray) : Bool := decide (ss.length ≤ 60) && ss.all fun s => decide (s.size ≤ 200)

set_option maxRecDepth 100000 in
theorem small_walk (v : Value) (ss : List ByteArray) (w : World) (hs : Sts w v ss) (hl : ss.length ≤ 8796093022208) :
    Calls Tryd.prog 28 #[v] w fun e w' => e = .returned (.bool (smallB ss)) ∧ w' = w := by
  obtain ⟨A, cc, n, rfl, hn, hc⟩ := hs.open_
  have HC := Lib.hid hc
  have HN := Lib.hid hn
  have hl' : n ≤ 8796093022208 := by omega
  clear hc hs hn hl
  go_enter Tryd.func28, Tryd.ntmps28
  go_wp2
  go_loop [3] (fun i => ∃ k : Nat, k ≤ n ∧ k ≤ 61 ∧ i = .int .i64 (k : Int) ∧ Hid (∀ j (h : j < ss.length), j < k → ss[j].size ≤ 200)) (fun i => n - (intOf i).toNat)
  case atStart => exact ⟨0, Nat.zero_le _, by omega, by go_num, fun j h hj => absurd hj (by omega)⟩
  case round =>
    obtain ⟨k, hk, hk61, rfl, hall⟩ := hrel
    by_cases hlt : k < n
    · by_cases hle : k ≤ 60
      · have hj : k < ss.length := by have := HN.out; omega
        obtain ⟨b, o, rfl, hcell⟩ := HC.out k hj
        have hce := hcell _ (Below.refl _ _)
        by_cases hbig : 200 < ss[k].size
        · have HE : Hid (smallB ss = false) := by
            unfold Hid smallB
            rw [show (ss.all fun s => decide (s.size ≤ 200)) = false from by
              rw [List.all_eq_false]; exact ⟨ss[k], List.getElem_mem _, by simp; omega⟩]
            simp
          generalize ss[k] = sj at *
          go_wp2
          go_ret
          exact ⟨by rw [HE.out]; rfl, rfl⟩
        · have HA : Hid (∀ j (h : j < ss.length), j < k + 1 → ss[j].size ≤ 200) := by
            intro j h hjk
            rcases Nat.lt_or_ge j k with h1 | h1
            · exact hall j h h1
            · obtain rfl : j = k := by omega
              omega
          clear hall hcell
          generalize ss[k] = sj at *
          go_wp2
          go_round
          case rel => exact ⟨k + 1, by omega, by omega, by go_num, HA⟩
          case measure => simp [intOf]; omega
      · have HE : Hid (smallB ss = decide ((n : Int) ≤ 60)) := by
          unfold Hid smallB
          rw [decide_eq_false (by have := HN.out; omega), decide_eq_false (by omega)]; simp
        have hn60 : ¬ n ≤ 60 := by omega
        clear hall
        go_wp2
        go_ret
        exact ⟨by rw [HE.out]; rfl, rfl⟩
    · by_cases hle : n ≤ 60
      · have HE : Hid (smallB ss = decide ((n : Int) ≤ 60)) := by
          unfold Hid smallB
          rw [decide_eq_true (by have := HN.out; omega), decide_eq_true (by omega), List.all_eq_true.2]
          · simp
          · intro s hs
            obtain ⟨j, h, rfl⟩ := List.getElem_of_mem hs
            have := hall j h (by have := HN.out; omega)
            simpa using this
        clear hall
        go_wp2
        go_ret
        exact ⟨by rw [HE.out]; rfl, rfl⟩
      · have HE : Hid (smallB ss = decide ((n : Int) ≤ 60)) := by
          unfold Hid smallB
          rw [decide_eq_false (by have := HN.out; omega), decide_eq_false (by omega)]; simp
        clear hall
        go_wp2
        go_ret
        exact ⟨by rw [HE.out]; rfl, rfl⟩
end Go.Proofs.YtnhnaallalgefaaDoor
