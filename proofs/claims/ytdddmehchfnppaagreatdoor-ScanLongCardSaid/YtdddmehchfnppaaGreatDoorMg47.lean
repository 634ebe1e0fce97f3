/- The walk of the statement ScanLong. Conditions: as each theorem says. -/
import Derived.Test.YtdddmehchfnppaaGreatDoorMg46
import Derived.Test.YtdddmehchfnppaaGreatDoorMg25
import Derived.Test.YtdddmehchfnppaaGreatDoorMg27
import Derived.StillTailTactics
import Derived.IntWalk
namespace Go.Proofs.YtdddmehchfnppaaGreatDoor
open Go Go.RowKit Go.Proofs Fl

set_option maxRecDepth 100000 in
set_option maxHeartbeats 1000000 in
theorem scanLong_far (f : Int) (a1 a2 : Option Addr) (n1 c1 n2 c2 : Nat) (x : Int) (hx : 0 ≤ x ∧ x ≤ 255) (w : World) (h : 300 < n1 ∨ (n1 ≤ 300 ∧ 60 < n2)) :
    Calls Tryz.prog 5 #[.int .i64 f, .slice a1 n1 c1, .int .u8 x, .slice a2 n2 c2] w fun e w' => e = .returned (.bool true) ∧ Below w.heap.size w w' := by
  obtain ⟨x0, x1⟩ := hx
  rcases h with h1 | ⟨h1, h2⟩
  all_goals
    go_enter Tryz.func5, Tryz.ntmps5
    go_wp2_with fail
    refine (awake_any14 _).mono ?_
    rintro e w1 ⟨rfl, hb⟩
    have HB := Lib.hid hb
    clear hb
    go_wp2
    go_ret
    exact ⟨rfl, HB.out⟩

set_option maxRecDepth 100000 in
set_option maxHeartbeats 16000000 in
theorem scanLong_walk (f : Int) (a1 a2 : Option Addr) (n1 c1 n2 c2 k m T : Nat) (x : Int) (hx : 0 ≤ x ∧ x ≤ 255) (hk : x % 80 + 1 = (k : Int)) (hm : m = n1 / k) (hT : T = m * k) (h1 : n1 ≤ 300) (h2 : n2 ≤ 60) (B : Nat → Bool) (L : Nat → Int) (w : World)
    (hb : Reads1 w (.slice a1 n1 c1) ((List.range n1).map fun j => .bool (B j))) (hl : Reads1 w (.slice a2 n2 c2) ((List.range n2).map fun j => .int .i64 (L j)))
    (hS : ∀ j, j < n2 → -9007199254740992 ≤ L j ∧ L j ≤ 9007199254740992)
    (N1 N2 : Nat) (O1 O2 : Nat → Nat) (E1 E2 : Int) (hN1 : N1 ≤ 1000000) (hN2 : N2 ≤ 1000000) (hO1 : ∀ j, j < N1 → TF (O1 j)) (hO2 : ∀ j, j < N2 → TF (O2 j))
    (hK1 : ∀ W v, Below w.heap.size w W → Reads1 W v ((List.range T).map fun j => .float .f64 (flagF (B j))) → Calls Tryz.prog 7 #[v, .int .i64 1] W (KeptK k T (fun j => flagF (B j)) W))
    (hK2 : ∀ W v, Below w.heap.size w W → Reads1 W v ((List.range n2).map fun j => .float .f64 (fi (L j))) → Calls Tryz.prog 7 #[v, .int .i64 3] W (KeptK n2 n2 (fun j => fi (L j)) W))
    (hF1 : ∀ (W : World) (H : Nat → Prop) k' b bn s i f' g x, Below w.heap.size w W → (∀ b, H b → b < W.heap.size) → (2 ≤ k → k' = 3 → 0 < T) → Keeps H W (NumV (vecW k' b bn s i f' g x) k' T (fun j => flagF (B j))) → Calls Tryz.prog 9 #[.int .i64 f, vecW k' b bn s i f' g x, .int .i64 (m : Int), .int .i64 (k : Int), .int .i64 1] W (AnyFold H N1 O1 E1 W))
    (hR1 : ∀ W v, Below w.heap.size w W → Reads1 W v ((List.range T).map fun j => .float .f64 (flagF (B j))) → Calls Tryz.prog 10 #[.int .i64 f, v, .int .i64 (m : Int), .int .i64 (k : Int), .int .i64 1] W (AnyRow N1 O1 E1 W))
    (hF2 : ∀ (W : World) (H : Nat → Prop) k' b bn s i f' g x, Below w.heap.size w W → (∀ b, H b → b < W.heap.size) → (2 ≤ n2 → k' = 3 → 0 < n2) → Keeps H W (NumV (vecW k' b bn s i f' g x) k' n2 (fun j => fi (L j))) → Calls Tryz.prog 9 #[.int .i64 f, vecW k' b bn s i f' g x, .int .i64 1, .int .i64 (n2 : Int), .int .i64 1] W (AnyFold H N2 O2 E2 W))
    (hR2 : ∀ W v, Below w.heap.size w W → Reads1 W v ((List.range n2).map fun j => .float .f64 (fi (L j))) → Calls Tryz.prog 10 #[.int .i64 f, v, .int .i64 1, .int .i64 (n2 : Int), .int .i64 1] W (AnyRow N2 O2 E2 W))
    (N3 : Nat) (O3 : Nat → Nat) (E3 : Int) (hF3 : ∀ (W : World) (H : Nat → Prop) k' b bn s i f' g x, Below w.heap.size w W → (∀ b, H b → b < W.heap.size) → (2 ≤ n2 → k' = 3 → 0 < n2) → Keeps H W (NumV (vecW k' b bn s i f' g x) k' n2 (fun j => fi (L j))) → Calls Tryz.prog 27 #[.int .i64 f, vecW k' b bn s i f' g x, .int .i64 1, .int .i64 (n2 : Int), .int .i64 1] W (AnyFold H N3 O3 E3 W))
    (hfin : n2 = 0 ∨ (E2 = 1 ∨ E2 = 24) ∨ (E2 = 0 ∧ E3 = 0 ∧ N2 = n2 ∧ N3 = 1 ∧ O3 0 = O2 (n2 - 1))) :
    Calls Tryz.prog 5 #[.int .i64 f, .slice a1 n1 c1, .int .u8 x, .slice a2 n2 c2] w fun e w' => e = .returned (.bool true) ∧ Below w.heap.size w w' := by
  obtain ⟨x0, x1⟩ := hx
  have HK1 := Lib.hid hK1
  have HK2 := Lib.hid hK2
  have HF1 := Lib.hid hF1
  have HF2 := Lib.hid hF2
  have HF3 := Lib.hid hF3
  have HFIN := Lib.hid hfin
  have HR1 := Lib.hid hR1
  have HR2 := Lib.hid hR2
  unfold KeptK at HK1 HK2
  unfold AnyFold at HF1 HF2 HF3
  unfold AnyRow at HR1 HR2
  have HO1 := Lib.hid hO1
  have HO2 := Lib.hid hO2
  have HBS := Lib.hid hb
  have HLS := Lib.hid hl
  have HSM := Lib.hid hS
  clear hfin hF3 hK1 hK2 hF1 hF2 hR1 hR2 hO1 hO2 hb hl hS
  have k0 : 0 < k := by omega
  have k1 : k ≤ 80 := by omega
  have m0 : m ≤ 300 := by rw [hm]; have := Nat.div_le_self n1 k; omega
  have T0 : T ≤ n1 := by rw [hT, hm]; exact Nat.div_mul_le_self n1 k
  have e1 : (n1 : Int) / (k : Int) = (m : Int) := by rw [hm]; push_cast; rfl
  have e2 : (m : Int) * (k : Int) = (T : Int) := by rw [hT]; push_cast; rfl
  have e3 : (T : Int) / (k : Int) = (m : Int) := by rw [← e2]; exact Int.mul_ediv_cancel _ (by omega)
  have HB0 := Lib.hid (Below.refl w.heap.size w)
  have HX0 : Hid (Own1 w w.heap.size 47 (.slice none 0 0) ((List.range 0).map fun j => .float .f64 (flagF (B j)))) := Own1.nil _ _ _
  clear hm hT
  go_enter Tryz.func5, Tryz.ntmps5
  go_wp2
  go_loopw [10, 12] (fun v i wr => ∃ j : Nat, j ≤ T ∧ i = .int .i64 j ∧ Own1 wr w.heap.size 47 v ((List.range j).map fun j => .float .f64 (flagF (B j))) ∧ Below w.heap.size w wr) (fun _ i _ => T - (intOf i).toNat)
  case atStart => exact ⟨0, Nat.zero_le _, rfl, HX0.out, HB0.out⟩
  case round =>
    obtain ⟨j, hj, rfl, hown, hbl⟩ := hrel
    have HOWN := Lib.hid hown
    have HBL := Lib.hid hbl
    have hBw : w.heap.size ≤ wr.heap.size := hbl.size
    clear hown hbl
    by_cases hlt : j < T
    · have HFL : Hid ((((List.range j).map fun j => Value.float .f64 (flagF (B j))).length + 1) * 8 ≤ 140737488355328) := by show _ ≤ _; rw [List.length_map, List.length_range]; omega
      have HFL2 : Hid (((List.range j).map fun j => Value.float .f64 (flagF (B j))).length + 1 ≤ 140737488355328) := by show _ ≤ _; rw [List.length_map, List.length_range]; omega
      have hj1 : j < n1 := by omega
      obtain ⟨a', c', hs, hcc⟩ := reads_at HBS.out
      injection hs with hs1 _ hs3
      subst hs1; subst hs3
      obtain ⟨bb, bo, rfl, hc0⟩ := hcc j hj1
      have hcell : wr.cell? ⟨bb, bo + j, none⟩ = some (.bool (B j)) := by rw [HBL.out.cell (cell_lt hc0)]; exact hc0
      clear hc0 hcc
      have HSN := Lib.hid (fun t (h : B j = t) => flags_snoc B j t h)
      obtain ⟨LL, hLL⟩ : ∃ LL, LL = (List.range j).map fun j => Value.float .f64 (flagF (B j)) := ⟨_, rfl⟩
      rw [← hLL] at HOWN HSN HFL HFL2
      clear hLL
      cases hBj : B j with
      | true =>
        have HS := Lib.hid (HSN.out true hBj)
        rw [hBj] at hcell
        clear hBj
        go_wp2_with (at_builtin; refine wpList_push1 rfl (.tmp 56) (.tmp 58) 22 47 rfl Tryz.underlying22 (.float .f64 0) 8 float64_info rfl w.heap.size _ LL rfl HOWN.out (.float .f64 (flagF true)) rfl rfl HFL.out HFL2.out hBw ?_; intro v' w1 hv' hb' hk' hs'; rw [HS.out] at hv'; have HV := Lib.hid hv'; have HB' := Lib.hid (hb' w HBL.out); clear hb' hk' hv')
        go_roundw
        case rel => exact ⟨j + 1, by omega, by go_num, HV.out, HB'.out⟩
        case measure => simp [intOf]; omega
      | false =>
        have HS := Lib.hid (HSN.out false hBj)
        rw [hBj] at hcell
        clear hBj
        go_wp2_with (at_builtin; refine wpList_push1 rfl (.tmp 56) (.tmp 58) 22 47 rfl Tryz.underlying22 (.float .f64 0) 8 float64_info rfl w.heap.size _ LL rfl HOWN.out (.float .f64 (flagF false)) rfl rfl HFL.out HFL2.out hBw ?_; intro v' w1 hv' hb' hk' hs'; rw [HS.out] at hv'; have HV := Lib.hid hv'; have HB' := Lib.hid (hb' w HBL.out); clear hb' hk' hv')
        go_roundw
        case rel => exact ⟨j + 1, by omega, by go_num, HV.out, HB'.out⟩
        case measure => simp [intOf]; omega
    · obtain rfl : j = T := by omega
      obtain ⟨wA, hwA⟩ : ∃ wA, wA = wr := ⟨_, rfl⟩
      subst hwA
      obtain ⟨la, lc, hu, _⟩ := reads_at HOWN.out.reads
      subst hu
      have HL := Lib.hid HOWN.out.reads
      have HB0' := Lib.hid (Below.refl wA.heap.size wA)
      have HM0 : Hid (Own1 wA wA.heap.size 47 (.slice none 0 0) ((List.range 0).map fun j => .float .f64 (fi (L j)))) := Own1.nil _ _ _
      clear HOWN HB0 HX0
      go_wp2
      go_loopw [11, 14] (fun v i w2 => ∃ q : Nat, q ≤ n2 ∧ i = .int .i64 q ∧ Own1 w2 wA.heap.size 47 v ((List.range q).map fun j => .float .f64 (fi (L j))) ∧ Below wA.heap.size wA w2) (fun _ i _ => n2 - (intOf i).toNat)
      case atStart => exact ⟨0, Nat.zero_le _, rfl, HM0.out, HB0'.out⟩
      case round =>
        clear HM0 HB0'
        obtain ⟨q, hq, rfl, hown, hbl⟩ := hrel
        have HOWN := Lib.hid hown
        have HBL2 := Lib.hid hbl
        have hBw2 : wA.heap.size ≤ wr.heap.size := hbl.size
        clear hown hbl
        by_cases hlt2 : q < n2
        · have HFL : Hid ((((List.range q).map fun j => Value.float .f64 (fi (L j))).length + 1) * 8 ≤ 140737488355328) := by show _ ≤ _; rw [List.length_map, List.length_range]; omega
          have HFL2 : Hid (((List.range q).map fun j => Value.float .f64 (fi (L j))).length + 1 ≤ 140737488355328) := by show _ ≤ _; rw [List.length_map, List.length_range]; omega
          obtain ⟨a', c', hs, hcc⟩ := reads_at HLS.out
          injection hs with hs1 _ hs3
          subst hs1; subst hs3
          obtain ⟨bb, bo, rfl, hc0⟩ := hcc q hlt2
          have hcell : wr.cell? ⟨bb, bo + q, none⟩ = some (.int .i64 (L q)) := by rw [(bel_both HBL.out HBL2.out).cell (cell_lt hc0)]; exact hc0
          clear hc0 hcc
          have HSA : Hid (∀ W, Calls Tryz.prog 26 #[.int .i64 (L q)] W fun e w' => e = .returned (.bool true) ∧ W = w') := fun W => by
            have h := small_any (L q) W
            rw [decide_eq_true (HSM.out q hlt2)] at h
            exact h
          have HS := Lib.hid (fis_snoc L q)
          obtain ⟨LL, hLL⟩ : ∃ LL, LL = (List.range q).map fun j => Value.float .f64 (fi (L j)) := ⟨_, rfl⟩
          rw [← hLL] at HOWN HS HFL HFL2
          clear hLL
          generalize L q = z at *
          go_wp2_with fail
          refine (HSA.out _).mono ?_
          rintro e w' ⟨rfl, rfl⟩
          go_wp2_with (at_builtin; refine wpList_push1 rfl (.tmp 73) (.tmp 79) 22 47 rfl Tryz.underlying22 (.float .f64 0) 8 float64_info rfl wA.heap.size _ LL rfl HOWN.out (.float .f64 (floatOfInt .f64 z)) rfl rfl HFL.out HFL2.out hBw2 ?_; intro v' w1 hv' hb' hk' hs'; rw [HS.out] at hv'; have HV := Lib.hid hv'; have HB' := Lib.hid (hb' wA HBL2.out); clear hb' hk' hv')
          go_roundw
          case rel => exact ⟨q + 1, by omega, by go_num, HV.out, HB'.out⟩
          case measure => simp [intOf]; omega
        · obtain rfl : q = n2 := by omega
          obtain ⟨ma, mc, hu, _⟩ := reads_at HOWN.out.reads
          subst hu
          have HM := Lib.hid HOWN.out.reads
          have HL2 := Lib.hid (HL.out.below HBL2.out)
          have HB2 := Lib.hid (bel_both HBL.out HBL2.out)
          clear HOWN HL HBL HBL2
          go_wp2_with fail
          refine (HK1.out _ _ HB2.out HL2.out).mono ?_
          rintro e w3 ⟨k1, b1, bn1, s1, i1, f1, g1, x1, rfl, hk, h3, hb3⟩
          have HB3 := Lib.hid (bel_both (bel_both HB2.out hb3) (bel1 w3 (.cells #[.int .i64 k1, .slice b1.1 b1.2.1 b1.2.2, .int .i64 bn1, .slice s1.1 s1.2.1 s1.2.2, .slice i1.1 i1.2.1 i1.2.2, .slice f1.1 f1.2.1 f1.2.2, .slice g1.1 g1.2.1 g1.2.2, .slice x1.1 x1.2.1 x1.2.2] 32)))
          have HX3 := Lib.hid (boxed_new w3 32 k1 (.slice b1.1 b1.2.1 b1.2.2) bn1 (.slice s1.1 s1.2.1 s1.2.2) (.slice i1.1 i1.2.1 i1.2.2) (.slice f1.1 f1.2.1 f1.2.2) (.slice g1.1 g1.2.1 g1.2.2) (.slice x1.1 x1.2.1 x1.2.2))
          have HN3 := Lib.hid (hk.step (bel1 w3 (.cells #[.int .i64 k1, .slice b1.1 b1.2.1 b1.2.2, .int .i64 bn1, .slice s1.1 s1.2.1 s1.2.2, .slice i1.1 i1.2.1 i1.2.2, .slice f1.1 f1.2.1 f1.2.2, .slice g1.1 g1.2.1 g1.2.2, .slice x1.1 x1.2.1 x1.2.2] 32)))
          have H31 := Lib.hid h3
          have HL3 := Lib.hid ((HL2.out.below hb3).below (bel1 w3 (.cells #[.int .i64 k1, .slice b1.1 b1.2.1 b1.2.2, .int .i64 bn1, .slice s1.1 s1.2.1 s1.2.2, .slice i1.1 i1.2.1 i1.2.2, .slice f1.1 f1.2.1 f1.2.2, .slice g1.1 g1.2.1 g1.2.2, .slice x1.1 x1.2.1 x1.2.2] 32)))
          have HM3 := Lib.hid ((HM.out.below hb3).below (bel1 w3 (.cells #[.int .i64 k1, .slice b1.1 b1.2.1 b1.2.2, .int .i64 bn1, .slice s1.1 s1.2.1 s1.2.2, .slice i1.1 i1.2.1 i1.2.2, .slice f1.1 f1.2.1 f1.2.2, .slice g1.1 g1.2.1 g1.2.2, .slice x1.1 x1.2.1 x1.2.2] 32)))
          clear hk h3 hb3 HL2 HM HB2
          go_wp2_with fail
          refine (HK2.out _ _ HB3.out HM3.out).mono ?_
          rintro e w4 ⟨k2, b2, bn2, s2, i2, f2, g2, x2, rfl, hk, h3, hb4⟩
          have HB4 := Lib.hid (bel_both (bel_both HB3.out hb4) (bel1 w4 (.cells #[.int .i64 k2, .slice b2.1 b2.2.1 b2.2.2, .int .i64 bn2, .slice s2.1 s2.2.1 s2.2.2, .slice i2.1 i2.2.1 i2.2.2, .slice f2.1 f2.2.1 f2.2.2, .slice g2.1 g2.2.1 g2.2.2, .slice x2.1 x2.2.1 x2.2.2] 32)))
          have HX4 := Lib.hid (boxed_new w4 32 k2 (.slice b2.1 b2.2.1 b2.2.2) bn2 (.slice s2.1 s2.2.1 s2.2.2) (.slice i2.1 i2.2.1 i2.2.2) (.slice f2.1 f2.2.1 f2.2.2) (.slice g2.1 g2.2.1 g2.2.2) (.slice x2.1 x2.2.1 x2.2.2))
          have HY4 := Lib.hid ((HX3.out.below hb4).below (bel1 w4 (.cells #[.int .i64 k2, .slice b2.1 b2.2.1 b2.2.2, .int .i64 bn2, .slice s2.1 s2.2.1 s2.2.2, .slice i2.1 i2.2.1 i2.2.2, .slice f2.1 f2.2.1 f2.2.2, .slice g2.1 g2.2.1 g2.2.2, .slice x2.1 x2.2.1 x2.2.2] 32)))
          have HN4 := Lib.hid (hk.step (bel1 w4 (.cells #[.int .i64 k2, .slice b2.1 b2.2.1 b2.2.2, .int .i64 bn2, .slice s2.1 s2.2.1 s2.2.2, .slice i2.1 i2.2.1 i2.2.2, .slice f2.1 f2.2.1 f2.2.2, .slice g2.1 g2.2.1 g2.2.2, .slice x2.1 x2.2.1 x2.2.2] 32)))
          have HP4 := Lib.hid ((HN3.out.step hb4).step (bel1 w4 (.cells #[.int .i64 k2, .slice b2.1 b2.2.1 b2.2.2, .int .i64 bn2, .slice s2.1 s2.2.1 s2.2.2, .slice i2.1 i2.2.1 i2.2.2, .slice f2.1 f2.2.1 f2.2.2, .slice g2.1 g2.2.1 g2.2.2, .slice x2.1 x2.2.1 x2.2.2] 32)))
          have H32 := Lib.hid h3
          have HL4 := Lib.hid ((HL3.out.below hb4).below (bel1 w4 (.cells #[.int .i64 k2, .slice b2.1 b2.2.1 b2.2.2, .int .i64 bn2, .slice s2.1 s2.2.1 s2.2.2, .slice i2.1 i2.2.1 i2.2.2, .slice f2.1 f2.2.1 f2.2.2, .slice g2.1 g2.2.1 g2.2.2, .slice x2.1 x2.2.1 x2.2.2] 32)))
          have HM4 := Lib.hid ((HM3.out.below hb4).below (bel1 w4 (.cells #[.int .i64 k2, .slice b2.1 b2.2.1 b2.2.2, .int .i64 bn2, .slice s2.1 s2.2.1 s2.2.2, .slice i2.1 i2.2.1 i2.2.2, .slice f2.1 f2.2.1 f2.2.2, .slice g2.1 g2.2.1 g2.2.2, .slice x2.1 x2.2.1 x2.2.2] 32)))
          clear hk h3 hb4 HL3 HM3 HB3 HX3 HN3
          go_wp2
          obtain ⟨w0, hw0⟩ : ∃ w0, w0 = w4.alloc (.cells #[.int .i64 k2, .slice b2.1 b2.2.1 b2.2.2, .int .i64 bn2, .slice s2.1 s2.2.1 s2.2.2, .slice i2.1 i2.2.1 i2.2.2, .slice f2.1 f2.2.1 f2.2.2, .slice g2.1 g2.2.1 g2.2.2, .slice x2.1 x2.2.1 x2.2.2] 32) := ⟨_, rfl⟩
          rw [← hw0] at HB4 HX4 HY4 HN4 HP4 HL4 HM4 ⊢
          clear hw0
          have HFC := Lib.hid (fun W (hs : LdS w0 w3.heap.size k1 (.slice b1.1 b1.2.1 b1.2.2) bn1 (.slice s1.1 s1.2.1 s1.2.2) (.slice i1.1 i1.2.1 i1.2.2) (.slice f1.1 f1.2.1 f1.2.2) (.slice g1.1 g1.2.1 g1.2.2) (.slice x1.1 x1.2.1 x1.2.2) W) => HF1.out W (Hole (fun _ => False) w0 W) _ _ _ _ _ _ _ _ (bel_both HB4.out hs.bel) (Hole.lt (fun _ h => h.elim) hs.bel) H31.out (HP4.out.arg hs.bel))
          go_cut [19, 20] from 29 (fun p ok wx => ok = .int .i64 E1 ∧ VcMid (fun _ => False) w0 (fun u W => NumW u N1 O1 W) p wx)
          case first =>
            have hs0 := (LdS.new HY4.out).dr
            have hs00 := LdS.new HY4.out
            have hz0 := hs00.sz
            have hq1 : (j : Int).tdiv (k : Int) = (m : Int) := by rw [Int.tdiv_eq_ediv_of_nonneg (by omega)]; exact e3
            have hq2 : IntKind.i64.wrap (m : Int) = (m : Int) := IntWalk.i64_in _ (by omega)
            have hq3 : ((k : Int) == 0) = false := by simp; omega
            have hq4 : ¬ (k : Int) = 0 := by omega
            have hq5 : ¬ k = 0 := by omega
            have hq7 : IntKind.i64.wrap ((j : Int).tdiv (k : Int)) = (m : Int) := by rw [hq1]; exact hq2
            go_region_held3 (fun W => (W.cell? ⟨w3.heap.size, 0, none⟩ = some (.int .i64 k1) ∧ W.cell? ⟨w3.heap.size, 1, none⟩ = some (.slice b1.1 b1.2.1 b1.2.2) ∧ W.cell? ⟨w3.heap.size, 2, none⟩ = some (.int .i64 bn1) ∧ W.cell? ⟨w3.heap.size, 3, none⟩ = some (.slice s1.1 s1.2.1 s1.2.2) ∧ W.cell? ⟨w3.heap.size, 4, none⟩ = some (.slice i1.1 i1.2.1 i1.2.2) ∧ W.cell? ⟨w3.heap.size, 5, none⟩ = some (.slice f1.1 f1.2.1 f1.2.2) ∧ W.cell? ⟨w3.heap.size, 6, none⟩ = some (.slice g1.1 g1.2.1 g1.2.2) ∧ W.cell? ⟨w3.heap.size, 7, none⟩ = some (.slice x1.1 x1.2.1 x1.2.2)) ∧ LdS w0 w3.heap.size k1 (.slice b1.1 b1.2.1 b1.2.2) bn1 (.slice s1.1 s1.2.1 s1.2.2) (.slice i1.1 i1.2.1 i1.2.2) (.slice f1.1 f1.2.1 f1.2.2) (.slice g1.1 g1.2.1 g1.2.2) (.slice x1.1 x1.2.1 x1.2.2) W)
              (first | (with_reducible assumption) | (with_reducible (refine ld_s ?_); repeat (first | (with_reducible assumption) | (with_reducible refine LdS.dr ?_) | (with_reducible refine LdS.put ?_ (by first | assumption | omega | (simp; omega)) _) | (with_reducible refine LdS.al ?_ _))))
              (first | (go_at_call 9; (with_reducible refine (HFC.out _ ?_).mono ?_); exact LdS.self (by repeat (first | (with_reducible assumption) | (with_reducible refine LdS.dr ?_) | (with_reducible refine LdS.put ?_ (by first | assumption | omega | (simp; omega)) _) | (with_reducible refine LdS.al ?_ _))); rintro e w6 ⟨k3, b3, bn3, s3, i3, f3, g3, x3, rfl, hk6, hb6⟩; obtain ⟨hc6, hf6⟩ := bcell2 hb6; have hz6 := hb6.size; have hst6 : LdS w0 w3.heap.size k1 (.slice b1.1 b1.2.1 b1.2.2) bn1 (.slice s1.1 s1.2.1 s1.2.2) (.slice i1.1 i1.2.1 i1.2.2) (.slice f1.1 f1.2.1 f1.2.2) (.slice g1.1 g1.2.1 g1.2.2) (.slice x1.1 x1.2.1 x1.2.2) w6 := LdS.step (by repeat (first | (with_reducible assumption) | (with_reducible refine LdS.dr ?_) | (with_reducible refine LdS.put ?_ (by first | assumption | omega | (simp; omega)) _) | (with_reducible refine LdS.al ?_ _))) hb6; have HB6 := Lib.hid hb6; have HK6 := Lib.hid hk6; clear hb6 hk6))
            all_goals
              go_wp2
              go_meet
              refine ⟨rfl, ?_⟩
              first
                | (with_reducible exact vcMid_new hst6 HK6.out)
                | (with_reducible exact vcMid_set (Nat.le_refl _) (lt_al _ _) (blk_al HB6.out) hst6 HK6.out)
                | (with_reducible exact vcMid_set (Nat.le_refl _) (lt_dr _ _) (blk_dr HB6.out) hst6 HK6.out)
                | (with_reducible exact vcMid_set (le_dr _) (lt_al _ _) (blk_al HB6.out) hst6 HK6.out)
                | (with_reducible exact vcMid_set (le_dr _) (lt_dr _ _) (blk_dr HB6.out) hst6 HK6.out)
          case rest =>
            obtain ⟨rfl, G3, k3, b3, bn3, s3, i3, f3, g3, x3, rfl, hG, hGs, hK, hB⟩ := hcut
            have HB6 := Lib.hid (bel_both HB4.out hB)
            have HX6 := Lib.hid (HX4.out.below hB)
            have HY6 := Lib.hid (boxed_of hG).1
            have HN6 := Lib.hid (HN4.out.step hB)
            have HQ6 := Lib.hid hK
            have HL6 := Lib.hid (HL4.out.below hB)
            have HM6 := Lib.hid (HM4.out.below hB)
            clear hG hGs hK hB HB4 HX4 HY4 HN4 HP4 HL4 HM4 HFC
            go_wp2_with fail
            refine (HR1.out _ _ HB6.out HL6.out).mono ?_
            rintro e w7 ⟨v7, rfl, hv, hb7⟩
            have HB7 := Lib.hid (bel_both HB6.out hb7)
            have HX7 := Lib.hid (HX6.out.below hb7)
            have HN7 := Lib.hid (HN6.out.step hb7)
            have HY7 := Lib.hid (HY6.out.below hb7)
            have HQ7 := Lib.hid (HQ6.out.step hb7)
            have HM7 := Lib.hid (HM6.out.below hb7)
            have HV7 := Lib.hid hv
            clear hb7 HB6 HX6 HN6 HY6 HQ6 HL6 HM6 hv
            obtain ⟨h0, h1', h2', h3', h4', h5', h6', h7'⟩ := HX7.out
            go_wp2_with fail
            refine (HF2.out _ (fun _ => False) _ _ _ _ _ _ _ _ HB7.out (fun _ h => h.elim) H32.out HN7.out).mono ?_
            clear h0 h1' h2' h3' h4' h5' h6' h7'
            rintro e w8 ⟨k4, b4, bn4, s4, i4, f4, g4, x4, rfl, hk, hb8⟩
            have HB8 := Lib.hid (bel_both (bel_both HB7.out hb8) (bel1 w8 (.cells #[.int .i64 k4, .slice b4.1 b4.2.1 b4.2.2, .int .i64 bn4, .slice s4.1 s4.2.1 s4.2.2, .slice i4.1 i4.2.1 i4.2.2, .slice f4.1 f4.2.1 f4.2.2, .slice g4.1 g4.2.1 g4.2.2, .slice x4.1 x4.2.1 x4.2.2] 32)))
            have HX8 := Lib.hid ((HX7.out.below hb8).below (bel1 w8 (.cells #[.int .i64 k4, .slice b4.1 b4.2.1 b4.2.2, .int .i64 bn4, .slice s4.1 s4.2.1 s4.2.2, .slice i4.1 i4.2.1 i4.2.2, .slice f4.1 f4.2.1 f4.2.2, .slice g4.1 g4.2.1 g4.2.2, .slice x4.1 x4.2.1 x4.2.2] 32)))
            have HN8 := Lib.hid ((HN7.out.step hb8).step (bel1 w8 (.cells #[.int .i64 k4, .slice b4.1 b4.2.1 b4.2.2, .int .i64 bn4, .slice s4.1 s4.2.1 s4.2.2, .slice i4.1 i4.2.1 i4.2.2, .slice f4.1 f4.2.1 f4.2.2, .slice g4.1 g4.2.1 g4.2.2, .slice x4.1 x4.2.1 x4.2.2] 32)))
            have HY8 := Lib.hid ((HY7.out.below hb8).below (bel1 w8 (.cells #[.int .i64 k4, .slice b4.1 b4.2.1 b4.2.2, .int .i64 bn4, .slice s4.1 s4.2.1 s4.2.2, .slice i4.1 i4.2.1 i4.2.2, .slice f4.1 f4.2.1 f4.2.2, .slice g4.1 g4.2.1 g4.2.2, .slice x4.1 x4.2.1 x4.2.2] 32)))
            have HQ8 := Lib.hid ((HQ7.out.step hb8).step (bel1 w8 (.cells #[.int .i64 k4, .slice b4.1 b4.2.1 b4.2.2, .int .i64 bn4, .slice s4.1 s4.2.1 s4.2.2, .slice i4.1 i4.2.1 i4.2.2, .slice f4.1 f4.2.1 f4.2.2, .slice g4.1 g4.2.1 g4.2.2, .slice x4.1 x4.2.1 x4.2.2] 32)))
            have HV8 := Lib.hid ((HV7.out.below hb8).below (bel1 w8 (.cells #[.int .i64 k4, .slice b4.1 b4.2.1 b4.2.2, .int .i64 bn4, .slice s4.1 s4.2.1 s4.2.2, .slice i4.1 i4.2.1 i4.2.2, .slice f4.1 f4.2.1 f4.2.2, .slice g4.1 g4.2.1 g4.2.2, .slice x4.1 x4.2.1 x4.2.2] 32)))
            have HM8 := Lib.hid ((HM7.out.below hb8).below (bel1 w8 (.cells #[.int .i64 k4, .slice b4.1 b4.2.1 b4.2.2, .int .i64 bn4, .slice s4.1 s4.2.1 s4.2.2, .slice i4.1 i4.2.1 i4.2.2, .slice f4.1 f4.2.1 f4.2.2, .slice g4.1 g4.2.1 g4.2.2, .slice x4.1 x4.2.1 x4.2.2] 32)))
            have HZ8 := Lib.hid (boxed_new w8 32 k4 (.slice b4.1 b4.2.1 b4.2.2) bn4 (.slice s4.1 s4.2.1 s4.2.2) (.slice i4.1 i4.2.1 i4.2.2) (.slice f4.1 f4.2.1 f4.2.2) (.slice g4.1 g4.2.1 g4.2.2) (.slice x4.1 x4.2.1 x4.2.2))
            have HU8 := Lib.hid (hk.step (bel1 w8 (.cells #[.int .i64 k4, .slice b4.1 b4.2.1 b4.2.2, .int .i64 bn4, .slice s4.1 s4.2.1 s4.2.2, .slice i4.1 i4.2.1 i4.2.2, .slice f4.1 f4.2.1 f4.2.2, .slice g4.1 g4.2.1 g4.2.2, .slice x4.1 x4.2.1 x4.2.2] 32)))
            clear hb8 HB7 HX7 HN7 HY7 HQ7 HV7 HM7 hk
            go_wp2_with fail
            refine (HR2.out _ _ HB8.out HM8.out).mono ?_
            rintro e w9 ⟨v9, rfl, hv, hb9⟩
            have HB9 := Lib.hid (bel_both HB8.out hb9)
            have HX9 := Lib.hid (HX8.out.below hb9)
            have HN9 := Lib.hid (HN8.out.step hb9)
            have HY9 := Lib.hid (HY8.out.below hb9)
            have HQ9 := Lib.hid (HQ8.out.step hb9)
            have HZ9 := Lib.hid (HZ8.out.below hb9)
            have HU9 := Lib.hid (HU8.out.step hb9)
            have HV9 := Lib.hid (HV8.out.below hb9)
            have HT9 := Lib.hid hv
            clear hb9 HB8 HX8 HN8 HY8 HQ8 HZ8 HU8 HV8 HM8 hv
            obtain ⟨h0, h1', h2', h3', h4', h5', h6', h7'⟩ := HY9.out
            have ne1 : (E1 != E1) = false := by simp
            have ne2 : (E2 != E2) = false := by simp
            go_wp2_with fail
            refine (nums_walk _ _ _ _ _ _ _ _ _ _ _ (NumW.of HQ9.out) hN1).mono ?_
            rintro e w10 ⟨v10, rfl, hv, hb10⟩
            have HB10 := Lib.hid (bel_both HB9.out hb10)
            have HX10 := Lib.hid (HX9.out.below hb10)
            have HN10 := Lib.hid (HN9.out.step hb10)
            have HZ10 := Lib.hid (HZ9.out.below hb10)
            have HU10 := Lib.hid (HU9.out.step hb10)
            have HT10 := Lib.hid (HT9.out.below hb10)
            have HS10 := Lib.hid (same_tf _ _ _ _ _ hv.reads (HV9.out.below hb10) hN1 HO1.out)
            clear hb10 HB9 HX9 HN9 HY9 HQ9 HZ9 HU9 HV9 HT9 hv h0 h1' h2' h3' h4' h5' h6' h7'
            go_wp2_with fail
            refine HS10.out.mono ?_
            rintro e w11 ⟨rfl, hb11⟩
            have HB11 := Lib.hid (bel_both HB10.out hb11)
            have HX11 := Lib.hid (HX10.out.below hb11)
            have HN11 := Lib.hid (HN10.out.step hb11)
            have HZ11 := Lib.hid (HZ10.out.below hb11)
            have HU11 := Lib.hid (HU10.out.step hb11)
            have HT11 := Lib.hid (HT10.out.below hb11)
            clear hb11 HB10 HX10 HN10 HZ10 HU10 HT10 HS10
            obtain ⟨h0, h1', h2', h3', h4', h5', h6', h7'⟩ := HZ11.out
            go_wp2_with fail
            refine (nums_walk _ _ _ _ _ _ _ _ _ _ _ (NumW.of HU11.out) hN2).mono ?_
            rintro e w12 ⟨v12, rfl, hv, hb12⟩
            have HB12 := Lib.hid (bel_both HB11.out hb12)
            have HX12 := Lib.hid (HX11.out.below hb12)
            have HN12 := Lib.hid (HN11.out.step hb12)
            have HZ12 := Lib.hid (HZ11.out.below hb12)
            have HU12 := Lib.hid (HU11.out.step hb12)
            have HS12 := Lib.hid (same_tf _ _ _ _ _ hv.reads (HT11.out.below hb12) hN2 HO2.out)
            clear hb12 HB11 HX11 HN11 HZ11 HU11 HT11 hv h0 h1' h2' h3' h4' h5' h6' h7'
            go_wp2_with fail
            refine HS12.out.mono ?_
            rintro e w13 ⟨rfl, hb13⟩
            have HB13 := Lib.hid (bel_both HB12.out hb13)
            have HX13 := Lib.hid (HX12.out.below hb13)
            have HN13 := Lib.hid (HN12.out.step hb13)
            have HZ13 := Lib.hid (HZ12.out.below hb13)
            have HU13 := Lib.hid (HU12.out.step hb13)
            clear hb13 HB12 HX12 HN12 HZ12 HU12 HS12
            go_upto_region 26 with (fail)
            go_cut [27, 28] from 29 (fun p ok wx => ok = .int .i64 E3 ∧ VcMid (fun _ => False) w13 (fun u W => NumW u N3 O3 W) p wx)
            case first =>
              obtain ⟨h0, h1', h2', h3', h4', h5', h6', h7'⟩ := HX13.out
              go_wp2_with fail
              refine (HF3.out _ (fun _ => False) _ _ _ _ _ _ _ _ HB13.out (fun _ h => h.elim) H32.out HN13.out).mono ?_
              clear h0 h1' h2' h3' h4' h5' h6' h7'
              rintro e w14 ⟨k6, b6, bn6, s6, i6, f6, g6, x6, rfl, hk, hb14⟩
              have HV14 : Hid (VcMid (fun _ => False) w13 (fun u W => NumW u N3 O3 W) (.pointer (some ⟨w14.heap.size, 0, none⟩)) (w14.alloc (.cells #[.int .i64 k6, .slice b6.1 b6.2.1 b6.2.2, .int .i64 bn6, .slice s6.1 s6.2.1 s6.2.2, .slice i6.1 i6.2.1 i6.2.2, .slice f6.1 f6.2.1 f6.2.2, .slice g6.1 g6.2.1 g6.2.2, .slice x6.1 x6.2.1 x6.2.2] 32))) := ⟨_, k6, b6, bn6, s6, i6, f6, g6, x6, rfl, heap_alloc_new _ _, hb14.size, hk.step (bel1 _ _), bel_both hb14 (bel1 _ _)⟩
              clear hk hb14
              go_wp2
              go_meet
              exact ⟨rfl, HV14.out⟩
            case rest =>
              obtain ⟨rfl, G14, k6, b6, bn6, s6, i6, f6, g6, x6, rfl, hG, hGs, hK, hB⟩ := hcut
              obtain ⟨w15, hw15⟩ : ∃ w15, w15 = wc := ⟨_, rfl⟩
              subst hw15
              have HB14 := Lib.hid (bel_both HB13.out hB)
              have HX14 := Lib.hid (boxed_of hG).1
              have HN14 := Lib.hid hK
              have HZ14 := Lib.hid (HZ13.out.below hB)
              have HU14 := Lib.hid (HU13.out.step hB)
              clear hG hGs hK hB HB13 HX13 HN13 HZ13 HU13
              go_wp2
              by_cases hn0 : q = 0
              · subst hn0
                refine wp_region_any (by kernel_rfl) ?_
                change wpAny _ _ _ _ _ _ _ (World.drew _)
                have HD := Lib.hid ((show Below w15.heap.size w15 w15.drew from (Below.refl _ _).drew))
                generalize w15.drew = w16 at HD ⊢
                refine wpAny_take (i := 0) (v := ?v1) rfl (by kernel_rfl) (by kernel_rfl) (by kernel_rfl) (fun _ _ _ h => h) (Or.inl ⟨by rfl, ?hy1⟩) ?rs1
                case hy1 => (intro w; go_simp; try with_reducible rfl)
                refine wpAny_take (i := 1) (v := ?v2) rfl (by kernel_rfl) (by kernel_rfl) (by kernel_rfl) (fun _ _ _ h => h) (Or.inl ⟨by rfl, ?hy2⟩) ?rs2
                case hy2 => (intro w; go_simp; try with_reducible rfl)
                refine wpAny_take (i := 2) (v := ?v3) rfl (by kernel_rfl) (by kernel_rfl) (by kernel_rfl) (fun _ _ _ h => h) (Or.inl ⟨by rfl, ?hy3⟩) ?rs3
                case hy3 => (intro w; go_simp; try with_reducible rfl)
                refine wpAny_take (i := 3) (v := ?v4) rfl (by kernel_rfl) (by kernel_rfl) (by kernel_rfl) (fun _ _ _ h => h) (Or.inl ⟨by rfl, ?hy4⟩) ?rs4
                case hy4 => (intro w; go_simp; try with_reducible rfl)
                refine wpAny_take (i := 4) (v := undef) rfl (by kernel_rfl) (by kernel_rfl) (by kernel_rfl) (fun _ _ _ h => h) (Or.inr ⟨by (go_simp <;> (intro h; cases h)), rfl⟩) ?_
                refine wpAny_take (i := 5) (v := undef) rfl (by kernel_rfl) (by kernel_rfl) (by kernel_rfl) (fun _ _ _ h => h) (Or.inr ⟨by (go_simp <;> (intro h; cases h)), rfl⟩) ?_
                refine wpAny_take (i := 6) (v := ?v5) rfl (by kernel_rfl) (by kernel_rfl) (by kernel_rfl) (fun _ _ _ h => h) (Or.inl ⟨by rfl, ?hy5⟩) ?rs5
                case hy5 => (intro w; go_simp; try with_reducible rfl)
                refine wpAny_take (i := 7) (v := ?v6) rfl (by kernel_rfl) (by kernel_rfl) (by kernel_rfl) (fun _ _ _ h => h) (Or.inl ⟨by rfl, ?hy6⟩) ?rs6
                case hy6 => (intro w; go_simp; try with_reducible rfl)
                refine wpAny_take (i := 8) (v := undef) rfl (by kernel_rfl) (by kernel_rfl) (by kernel_rfl) (fun _ _ _ h => h) (Or.inr ⟨by (go_simp <;> (intro h; cases h)), rfl⟩) ?_
                refine wpAny_take (i := 9) (v := undef) rfl (by kernel_rfl) (by kernel_rfl) (by kernel_rfl) (fun _ _ _ h => h) (Or.inr ⟨by (go_simp <;> (intro h; cases h)), rfl⟩) ?_
                refine wpAny_take (i := 10) (v := undef) rfl (by kernel_rfl) (by kernel_rfl) (by kernel_rfl) (fun _ _ _ h => h) (Or.inr ⟨by (go_simp <;> (intro h; cases h)), rfl⟩) ?_
                refine wpAny_take (i := 11) (v := undef) rfl (by kernel_rfl) (by kernel_rfl) (by kernel_rfl) (fun _ _ _ h => h) (Or.inr ⟨by (go_simp <;> (intro h; cases h)), rfl⟩) ?_
                refine wpAny_take (i := 12) (v := undef) rfl (by kernel_rfl) (by kernel_rfl) (by kernel_rfl) (fun _ _ _ h => h) (Or.inr ⟨by (go_simp <;> (intro h; cases h)), rfl⟩) ?_
                refine wpAny_take (i := 13) (v := undef) rfl (by kernel_rfl) (by kernel_rfl) (by kernel_rfl) (fun _ _ _ h => h) (Or.inr ⟨by (go_simp <;> (intro h; cases h)), rfl⟩) ?_
                refine wpAny_take (i := 14) (v := undef) rfl (by kernel_rfl) (by kernel_rfl) (by kernel_rfl) (fun _ _ _ h => h) (Or.inr ⟨by (go_simp <;> (intro h; cases h)), rfl⟩) ?_
                refine wpAny_take (i := 15) (v := undef) rfl (by kernel_rfl) (by kernel_rfl) (by kernel_rfl) (fun _ _ _ h => h) (Or.inr ⟨by (go_simp <;> (intro h; cases h)), rfl⟩) ?_
                refine wpAny_take (i := 16) (v := undef) rfl (by kernel_rfl) (by kernel_rfl) (by kernel_rfl) (fun _ _ _ h => h) (Or.inr ⟨by (go_simp <;> (intro h; cases h)), rfl⟩) ?_
                refine wpAny_take (i := 17) (v := undef) rfl (by kernel_rfl) (by kernel_rfl) (by kernel_rfl) (fun _ _ _ h => h) (Or.inr ⟨by (go_simp <;> (intro h; cases h)), rfl⟩) ?_
                refine wpAny_take (i := 18) (v := undef) rfl (by kernel_rfl) (by kernel_rfl) (by kernel_rfl) (fun _ _ _ h => h) (Or.inr ⟨by (go_simp <;> (intro h; cases h)), rfl⟩) ?_
                refine wpAny_take (i := 19) (v := undef) rfl (by kernel_rfl) (by kernel_rfl) (by kernel_rfl) (fun _ _ _ h => h) (Or.inr ⟨by (go_simp <;> (intro h; cases h)), rfl⟩) ?_
                refine wpAny_take (i := 20) (v := undef) rfl (by kernel_rfl) (by kernel_rfl) (by kernel_rfl) (fun _ _ _ h => h) (Or.inr ⟨by (go_simp <;> (intro h; cases h)), rfl⟩) ?_
                refine wpAny_take (i := 21) (v := ?v7) rfl (by kernel_rfl) (by kernel_rfl) (by kernel_rfl) (fun _ _ _ h => h) (Or.inl ⟨by rfl, ?hy7⟩) ?rs7
                case hy7 => (intro w; go_simp; try with_reducible rfl)
                refine wpAny_take (i := 22) (v := ?v8) rfl (by kernel_rfl) (by kernel_rfl) (by kernel_rfl) (fun _ _ _ h => h) (Or.inl ⟨by rfl, ?hy8⟩) ?rs8
                case hy8 => (intro w; go_simp; try with_reducible rfl)
                refine wpAny_ready (rs := [23]) (by kernel_rfl) (by simp) ?_
                refine AllReady.cons rfl (fun K hK => ?_) AllReady.nil
                go_simp
                go_wp2_with (go_at_call 6; refine (awake_any14 _).mono ?_; rintro e w17 ⟨rfl, hb17⟩)
                refine wpAny_take (i := 24) (v := ?v9) rfl (by kernel_rfl) (by kernel_rfl) (by kernel_rfl) (fun _ _ _ h => h) (Or.inl ⟨by rfl, ?hy9⟩) ?rs9
                case hy9 => (intro w; go_simp; try with_reducible rfl)
                refine wpAny_take (i := 25) (v := ?v10) rfl (by kernel_rfl) (by kernel_rfl) (by kernel_rfl) (fun _ _ _ h => h) (Or.inl ⟨by rfl, ?hy10⟩) ?rs10
                case hy10 => (intro w; go_simp; try with_reducible rfl)
                refine wpAny_done (by kernel_rfl) ?_ _
                have HB17 := Lib.hid (bel_both HB14.out (bel_both HD.out hb17))
                clear hb17
                go_wp2
                go_ret
                exact ⟨rfl, HB17.out⟩
              · have g1 : ((q : Int) == 0) = false := by simp; omega
                rcases HFIN.out with h | hE | ⟨hE, hF⟩
                · exact absurd h hn0
                · rcases hE with hE | hE
                  · subst hE
                    clear hn0
                    refine wp_region_any (by kernel_rfl) ?_
                    change wpAny _ _ _ _ _ _ _ (World.drew _)
                    have HD := Lib.hid ((show Below w15.heap.size w15 w15.drew from (Below.refl _ _).drew))
                    generalize w15.drew = w16 at HD ⊢
                    refine wpAny_take (i := 0) (v := ?v11) rfl (by kernel_rfl) (by kernel_rfl) (by kernel_rfl) (fun _ _ _ h => h) (Or.inl ⟨by rfl, ?hy11⟩) ?rs11
                    case hy11 => (intro w; go_simp; try with_reducible rfl)
                    refine wpAny_take (i := 1) (v := ?v12) rfl (by kernel_rfl) (by kernel_rfl) (by kernel_rfl) (fun _ _ _ h => h) (Or.inl ⟨by rfl, ?hy12⟩) ?rs12
                    case hy12 => (intro w; go_simp; try with_reducible rfl)
                    refine wpAny_take (i := 2) (v := ?v13) rfl (by kernel_rfl) (by kernel_rfl) (by kernel_rfl) (fun _ _ _ h => h) (Or.inl ⟨by rfl, ?hy13⟩) ?rs13
                    case hy13 => (intro w; go_simp; try with_reducible rfl)
                    refine wpAny_take (i := 3) (v := ?v14) rfl (by kernel_rfl) (by kernel_rfl) (by kernel_rfl) (fun _ _ _ h => h) (Or.inl ⟨by rfl, ?hy14⟩) ?rs14
                    case hy14 => (intro w; go_simp; try with_reducible rfl)
                    refine wpAny_take (i := 4) (v := ?v15) rfl (by kernel_rfl) (by kernel_rfl) (by kernel_rfl) (fun _ _ _ h => h) (Or.inl ⟨by go_simp, ?hy15⟩) ?rs15
                    case hy15 => (intro w; go_simp; try with_reducible rfl)
                    refine wpAny_take (i := 5) (v := ?v16) rfl (by kernel_rfl) (by kernel_rfl) (by kernel_rfl) (fun _ _ _ h => h) (Or.inl ⟨by go_simp, ?hy16⟩) ?rs16
                    case hy16 => (intro w; go_simp; try with_reducible rfl)
                    refine wpAny_take (i := 6) (v := ?v17) rfl (by kernel_rfl) (by kernel_rfl) (by kernel_rfl) (fun _ _ _ h => h) (Or.inl ⟨by rfl, ?hy17⟩) ?rs17
                    case hy17 => (intro w; go_simp; try with_reducible rfl)
                    refine wpAny_take (i := 7) (v := ?v18) rfl (by kernel_rfl) (by kernel_rfl) (by kernel_rfl) (fun _ _ _ h => h) (Or.inl ⟨by rfl, ?hy18⟩) ?rs18
                    case hy18 => (intro w; go_simp; try with_reducible rfl)
                    refine wpAny_take (i := 8) (v := undef) rfl (by kernel_rfl) (by kernel_rfl) (by kernel_rfl) (fun _ _ _ h => h) (Or.inr ⟨by (go_simp <;> (intro h; cases h)), rfl⟩) ?_
                    refine wpAny_take (i := 9) (v := undef) rfl (by kernel_rfl) (by kernel_rfl) (by kernel_rfl) (fun _ _ _ h => h) (Or.inr ⟨by (go_simp <;> (intro h; cases h)), rfl⟩) ?_
                    refine wpAny_take (i := 10) (v := undef) rfl (by kernel_rfl) (by kernel_rfl) (by kernel_rfl) (fun _ _ _ h => h) (Or.inr ⟨by (go_simp <;> (intro h; cases h)), rfl⟩) ?_
                    refine wpAny_take (i := 11) (v := undef) rfl (by kernel_rfl) (by kernel_rfl) (by kernel_rfl) (fun _ _ _ h => h) (Or.inr ⟨by (go_simp <;> (intro h; cases h)), rfl⟩) ?_
                    refine wpAny_take (i := 12) (v := undef) rfl (by kernel_rfl) (by kernel_rfl) (by kernel_rfl) (fun _ _ _ h => h) (Or.inr ⟨by (go_simp <;> (intro h; cases h)), rfl⟩) ?_
                    refine wpAny_take (i := 13) (v := undef) rfl (by kernel_rfl) (by kernel_rfl) (by kernel_rfl) (fun _ _ _ h => h) (Or.inr ⟨by (go_simp <;> (intro h; cases h)), rfl⟩) ?_
                    refine wpAny_take (i := 14) (v := undef) rfl (by kernel_rfl) (by kernel_rfl) (by kernel_rfl) (fun _ _ _ h => h) (Or.inr ⟨by (go_simp <;> (intro h; cases h)), rfl⟩) ?_
                    refine wpAny_take (i := 15) (v := undef) rfl (by kernel_rfl) (by kernel_rfl) (by kernel_rfl) (fun _ _ _ h => h) (Or.inr ⟨by (go_simp <;> (intro h; cases h)), rfl⟩) ?_
                    refine wpAny_take (i := 16) (v := undef) rfl (by kernel_rfl) (by kernel_rfl) (by kernel_rfl) (fun _ _ _ h => h) (Or.inr ⟨by (go_simp <;> (intro h; cases h)), rfl⟩) ?_
                    refine wpAny_take (i := 17) (v := undef) rfl (by kernel_rfl) (by kernel_rfl) (by kernel_rfl) (fun _ _ _ h => h) (Or.inr ⟨by (go_simp <;> (intro h; cases h)), rfl⟩) ?_
                    refine wpAny_take (i := 18) (v := undef) rfl (by kernel_rfl) (by kernel_rfl) (by kernel_rfl) (fun _ _ _ h => h) (Or.inr ⟨by (go_simp <;> (intro h; cases h)), rfl⟩) ?_
                    refine wpAny_take (i := 19) (v := undef) rfl (by kernel_rfl) (by kernel_rfl) (by kernel_rfl) (fun _ _ _ h => h) (Or.inr ⟨by (go_simp <;> (intro h; cases h)), rfl⟩) ?_
                    refine wpAny_take (i := 20) (v := undef) rfl (by kernel_rfl) (by kernel_rfl) (by kernel_rfl) (fun _ _ _ h => h) (Or.inr ⟨by (go_simp <;> (intro h; cases h)), rfl⟩) ?_
                    refine wpAny_take (i := 21) (v := ?v19) rfl (by kernel_rfl) (by kernel_rfl) (by kernel_rfl) (fun _ _ _ h => h) (Or.inl ⟨by rfl, ?hy19⟩) ?rs19
                    case hy19 => (intro w; go_simp; try with_reducible rfl)
                    refine wpAny_take (i := 22) (v := ?v20) rfl (by kernel_rfl) (by kernel_rfl) (by kernel_rfl) (fun _ _ _ h => h) (Or.inl ⟨by rfl, ?hy20⟩) ?rs20
                    case hy20 => (intro w; go_simp; try with_reducible rfl)
                    refine wpAny_ready (rs := [23]) (by kernel_rfl) (by simp) ?_
                    refine AllReady.cons rfl (fun K hK => ?_) AllReady.nil
                    go_simp
                    go_wp2_with (go_at_call 6; refine (awake_any14 _).mono ?_; rintro e w17 ⟨rfl, hb17⟩)
                    refine wpAny_take (i := 24) (v := ?v21) rfl (by kernel_rfl) (by kernel_rfl) (by kernel_rfl) (fun _ _ _ h => h) (Or.inl ⟨by rfl, ?hy21⟩) ?rs21
                    case hy21 => (intro w; go_simp; try with_reducible rfl)
                    refine wpAny_take (i := 25) (v := ?v22) rfl (by kernel_rfl) (by kernel_rfl) (by kernel_rfl) (fun _ _ _ h => h) (Or.inl ⟨by rfl, ?hy22⟩) ?rs22
                    case hy22 => (intro w; go_simp; try with_reducible rfl)
                    refine wpAny_done (by kernel_rfl) ?_ _
                    have HB17 := Lib.hid (bel_both HB14.out (bel_both HD.out hb17))
                    clear hb17
                    go_wp2
                    go_ret
                    exact ⟨rfl, HB17.out⟩
                  · subst hE
                    clear hn0
                    refine wp_region_any (by kernel_rfl) ?_
                    change wpAny _ _ _ _ _ _ _ (World.drew _)
                    have HD := Lib.hid ((show Below w15.heap.size w15 w15.drew from (Below.refl _ _).drew))
                    generalize w15.drew = w16 at HD ⊢
                    refine wpAny_take (i := 0) (v := ?v23) rfl (by kernel_rfl) (by kernel_rfl) (by kernel_rfl) (fun _ _ _ h => h) (Or.inl ⟨by rfl, ?hy23⟩) ?rs23
                    case hy23 => (intro w; go_simp; try with_reducible rfl)
                    refine wpAny_take (i := 1) (v := ?v24) rfl (by kernel_rfl) (by kernel_rfl) (by kernel_rfl) (fun _ _ _ h => h) (Or.inl ⟨by rfl, ?hy24⟩) ?rs24
                    case hy24 => (intro w; go_simp; try with_reducible rfl)
                    refine wpAny_take (i := 2) (v := ?v25) rfl (by kernel_rfl) (by kernel_rfl) (by kernel_rfl) (fun _ _ _ h => h) (Or.inl ⟨by rfl, ?hy25⟩) ?rs25
                    case hy25 => (intro w; go_simp; try with_reducible rfl)
                    refine wpAny_take (i := 3) (v := ?v26) rfl (by kernel_rfl) (by kernel_rfl) (by kernel_rfl) (fun _ _ _ h => h) (Or.inl ⟨by rfl, ?hy26⟩) ?rs26
                    case hy26 => (intro w; go_simp; try with_reducible rfl)
                    refine wpAny_take (i := 4) (v := ?v27) rfl (by kernel_rfl) (by kernel_rfl) (by kernel_rfl) (fun _ _ _ h => h) (Or.inl ⟨by go_simp, ?hy27⟩) ?rs27
                    case hy27 => (intro w; go_simp; try with_reducible rfl)
                    refine wpAny_take (i := 5) (v := ?v28) rfl (by kernel_rfl) (by kernel_rfl) (by kernel_rfl) (fun _ _ _ h => h) (Or.inl ⟨by go_simp, ?hy28⟩) ?rs28
                    case hy28 => (intro w; go_simp; try with_reducible rfl)
                    refine wpAny_take (i := 6) (v := ?v29) rfl (by kernel_rfl) (by kernel_rfl) (by kernel_rfl) (fun _ _ _ h => h) (Or.inl ⟨by rfl, ?hy29⟩) ?rs29
                    case hy29 => (intro w; go_simp; try with_reducible rfl)
                    refine wpAny_take (i := 7) (v := ?v30) rfl (by kernel_rfl) (by kernel_rfl) (by kernel_rfl) (fun _ _ _ h => h) (Or.inl ⟨by rfl, ?hy30⟩) ?rs30
                    case hy30 => (intro w; go_simp; try with_reducible rfl)
                    refine wpAny_take (i := 8) (v := undef) rfl (by kernel_rfl) (by kernel_rfl) (by kernel_rfl) (fun _ _ _ h => h) (Or.inr ⟨by (go_simp <;> (intro h; cases h)), rfl⟩) ?_
                    refine wpAny_take (i := 9) (v := undef) rfl (by kernel_rfl) (by kernel_rfl) (by kernel_rfl) (fun _ _ _ h => h) (Or.inr ⟨by (go_simp <;> (intro h; cases h)), rfl⟩) ?_
                    refine wpAny_take (i := 10) (v := undef) rfl (by kernel_rfl) (by kernel_rfl) (by kernel_rfl) (fun _ _ _ h => h) (Or.inr ⟨by (go_simp <;> (intro h; cases h)), rfl⟩) ?_
                    refine wpAny_take (i := 11) (v := undef) rfl (by kernel_rfl) (by kernel_rfl) (by kernel_rfl) (fun _ _ _ h => h) (Or.inr ⟨by (go_simp <;> (intro h; cases h)), rfl⟩) ?_
                    refine wpAny_take (i := 12) (v := undef) rfl (by kernel_rfl) (by kernel_rfl) (by kernel_rfl) (fun _ _ _ h => h) (Or.inr ⟨by (go_simp <;> (intro h; cases h)), rfl⟩) ?_
                    refine wpAny_take (i := 13) (v := undef) rfl (by kernel_rfl) (by kernel_rfl) (by kernel_rfl) (fun _ _ _ h => h) (Or.inr ⟨by (go_simp <;> (intro h; cases h)), rfl⟩) ?_
                    refine wpAny_take (i := 14) (v := undef) rfl (by kernel_rfl) (by kernel_rfl) (by kernel_rfl) (fun _ _ _ h => h) (Or.inr ⟨by (go_simp <;> (intro h; cases h)), rfl⟩) ?_
                    refine wpAny_take (i := 15) (v := undef) rfl (by kernel_rfl) (by kernel_rfl) (by kernel_rfl) (fun _ _ _ h => h) (Or.inr ⟨by (go_simp <;> (intro h; cases h)), rfl⟩) ?_
                    refine wpAny_take (i := 16) (v := undef) rfl (by kernel_rfl) (by kernel_rfl) (by kernel_rfl) (fun _ _ _ h => h) (Or.inr ⟨by (go_simp <;> (intro h; cases h)), rfl⟩) ?_
                    refine wpAny_take (i := 17) (v := undef) rfl (by kernel_rfl) (by kernel_rfl) (by kernel_rfl) (fun _ _ _ h => h) (Or.inr ⟨by (go_simp <;> (intro h; cases h)), rfl⟩) ?_
                    refine wpAny_take (i := 18) (v := undef) rfl (by kernel_rfl) (by kernel_rfl) (by kernel_rfl) (fun _ _ _ h => h) (Or.inr ⟨by (go_simp <;> (intro h; cases h)), rfl⟩) ?_
                    refine wpAny_take (i := 19) (v := undef) rfl (by kernel_rfl) (by kernel_rfl) (by kernel_rfl) (fun _ _ _ h => h) (Or.inr ⟨by (go_simp <;> (intro h; cases h)), rfl⟩) ?_
                    refine wpAny_take (i := 20) (v := undef) rfl (by kernel_rfl) (by kernel_rfl) (by kernel_rfl) (fun _ _ _ h => h) (Or.inr ⟨by (go_simp <;> (intro h; cases h)), rfl⟩) ?_
                    refine wpAny_take (i := 21) (v := ?v31) rfl (by kernel_rfl) (by kernel_rfl) (by kernel_rfl) (fun _ _ _ h => h) (Or.inl ⟨by rfl, ?hy31⟩) ?rs31
                    case hy31 => (intro w; go_simp; try with_reducible rfl)
                    refine wpAny_take (i := 22) (v := ?v32) rfl (by kernel_rfl) (by kernel_rfl) (by kernel_rfl) (fun _ _ _ h => h) (Or.inl ⟨by rfl, ?hy32⟩) ?rs32
                    case hy32 => (intro w; go_simp; try with_reducible rfl)
                    refine wpAny_ready (rs := [23]) (by kernel_rfl) (by simp) ?_
                    refine AllReady.cons rfl (fun K hK => ?_) AllReady.nil
                    go_simp
                    go_wp2_with (go_at_call 6; refine (awake_any14 _).mono ?_; rintro e w17 ⟨rfl, hb17⟩)
                    refine wpAny_take (i := 24) (v := ?v33) rfl (by kernel_rfl) (by kernel_rfl) (by kernel_rfl) (fun _ _ _ h => h) (Or.inl ⟨by rfl, ?hy33⟩) ?rs33
                    case hy33 => (intro w; go_simp; try with_reducible rfl)
                    refine wpAny_take (i := 25) (v := ?v34) rfl (by kernel_rfl) (by kernel_rfl) (by kernel_rfl) (fun _ _ _ h => h) (Or.inl ⟨by rfl, ?hy34⟩) ?rs34
                    case hy34 => (intro w; go_simp; try with_reducible rfl)
                    refine wpAny_done (by kernel_rfl) ?_ _
                    have HB17 := Lib.hid (bel_both HB14.out (bel_both HD.out hb17))
                    clear hb17
                    go_wp2
                    go_ret
                    exact ⟨rfl, HB17.out⟩
                · obtain ⟨p, hp⟩ : ∃ p, q = p + 1 := ⟨q - 1, by omega⟩
                  obtain ⟨ef2, ef3, ef4, ef5⟩ := hF
                  rw [show q - 1 = p by omega] at ef5
                  have HQN := Lib.hid (NumW.of HU14.out)
                  have HNX : Hid (∀ W, Below w15.heap.size w15 W → Calls Tryz.prog 28 #[vecW k6  b6  bn6  s6  i6  f6  g6  x6, .int .i64 0] W fun e w2 => e = .returned (.float .f64 (O2 p)) ∧ Below W.heap.size W w2) := fun W hb => by rw [← ef5]; exact (NumW.of HN14.out).num W hb 0 (by omega)
                  have HNR : Hid (∀ W, Below w15.heap.size w15 W → Calls Tryz.prog 28 #[vecW k4  b4  bn4  s4  i4  f4  g4  x4, .int .i64 (p : Nat)] W fun e w2 => e = .returned (.float .f64 (O2 p)) ∧ Below W.heap.size W w2) := fun W hb => HQN.out.num W hb p (by omega)
                  have HBT := Lib.hid (fun W => bits_tf (HO2.out p (by omega)) W)
                  generalize O2 p = y at HNX HNR HBT
                  have hq1 : (q : Int) - 1 = (p : Int) := by omega
                  have hq2 : IntKind.i64.wrap (p : Int) = (p : Int) := IntWalk.i64_in _ (by omega)
                  subst hE; subst ef2
                  clear hp ef3 ef4 ef5 HQN hn0
                  refine wp_region_any (by kernel_rfl) ?_
                  change wpAny _ _ _ _ _ _ _ (World.drew _)
                  have HD := Lib.hid ((show Below w15.heap.size w15 w15.drew from (Below.refl _ _).drew))
                  generalize w15.drew = w16 at HD ⊢
                  have HE16 := Lib.hid (HZ14.out.below HD.out)
                  obtain ⟨c0, c1, c2, c3, c4, c5, c6, c7⟩ := HX14.out.below HD.out
                  obtain ⟨d0, d1, d2, d3, d4, d5, d6, d7⟩ := HE16.out
                  refine wpAny_take (i := 0) (v := ?v35) rfl (by kernel_rfl) (by kernel_rfl) (by kernel_rfl) (fun _ _ _ h => h) (Or.inl ⟨by rfl, ?hy35⟩) ?rs35
                  case hy35 => (intro w; go_simp; try with_reducible rfl)
                  refine wpAny_take (i := 1) (v := ?v36) rfl (by kernel_rfl) (by kernel_rfl) (by kernel_rfl) (fun _ _ _ h => h) (Or.inl ⟨by rfl, ?hy36⟩) ?rs36
                  case hy36 => (intro w; go_simp; try with_reducible rfl)
                  refine wpAny_take (i := 2) (v := ?v37) rfl (by kernel_rfl) (by kernel_rfl) (by kernel_rfl) (fun _ _ _ h => h) (Or.inl ⟨by rfl, ?hy37⟩) ?rs37
                  case hy37 => (intro w; go_simp; try with_reducible rfl)
                  refine wpAny_take (i := 3) (v := ?v38) rfl (by kernel_rfl) (by kernel_rfl) (by kernel_rfl) (fun _ _ _ h => h) (Or.inl ⟨by rfl, ?hy38⟩) ?rs38
                  case hy38 => (intro w; go_simp; try with_reducible rfl)
                  refine wpAny_take (i := 4) (v := ?v39) rfl (by kernel_rfl) (by kernel_rfl) (by kernel_rfl) (fun _ _ _ h => h) (Or.inl ⟨by go_simp, ?hy39⟩) ?rs39
                  case hy39 => (intro w; go_simp; try with_reducible rfl)
                  refine wpAny_take (i := 5) (v := ?v40) rfl (by kernel_rfl) (by kernel_rfl) (by kernel_rfl) (fun _ _ _ h => h) (Or.inl ⟨by go_simp, ?hy40⟩) ?rs40
                  case hy40 => (intro w; go_simp; try with_reducible rfl)
                  refine wpAny_take (i := 6) (v := ?v41) rfl (by kernel_rfl) (by kernel_rfl) (by kernel_rfl) (fun _ _ _ h => h) (Or.inl ⟨by rfl, ?hy41⟩) ?rs41
                  case hy41 => (intro w; go_simp; try with_reducible rfl)
                  refine wpAny_take (i := 7) (v := ?v42) rfl (by kernel_rfl) (by kernel_rfl) (by kernel_rfl) (fun _ _ _ h => h) (Or.inl ⟨by rfl, ?hy42⟩) ?rs42
                  case hy42 => (intro w; go_simp; try with_reducible rfl)
                  refine wpAny_take (i := 8) (v := ?v43) rfl (by kernel_rfl) (by kernel_rfl) (by kernel_rfl) (fun _ _ _ h => h) (Or.inl ⟨by go_simp, ?hy43⟩) ?rs43
                  case hy43 => (intro w; go_simp; try with_reducible rfl)
                  refine wpAny_take (i := 9) (v := ?v44) rfl (by kernel_rfl) (by kernel_rfl) (by kernel_rfl) (fun _ _ _ h => h) (Or.inl ⟨by go_simp, ?hy44⟩) ?rs44
                  case hy44 => (intro w; go_simp; try with_reducible rfl)
                  refine wpAny_take (i := 10) (v := ?v45) rfl (by kernel_rfl) (by kernel_rfl) (by kernel_rfl) (fun _ _ _ h => h) (Or.inl ⟨by go_simp, ?hy45⟩) ?rs45
                  case hy45 => (intro w; go_simp; try with_reducible rfl)
                  refine wpAny_take (i := 11) (v := ?v46) rfl (by kernel_rfl) (by kernel_rfl) (by kernel_rfl) (fun _ _ _ h => h) (Or.inl ⟨by go_simp, ?hy46⟩) ?rs46
                  case hy46 => (intro w; go_simp; try with_reducible rfl)
                  refine wpAny_take (i := 15) (v := ?v47) rfl (by kernel_rfl) (by kernel_rfl) (by kernel_rfl) (fun _ _ _ h => h) (Or.inl ⟨by go_simp, ?hy47⟩) ?rs47
                  case hy47 => (intro w; go_simp; try with_reducible rfl)
                  refine wpAny_take (i := 16) (v := ?v48) rfl (by kernel_rfl) (by kernel_rfl) (by kernel_rfl) (fun _ _ _ h => h) (Or.inl ⟨by go_simp, ?hy48⟩) ?rs48
                  case hy48 => (intro w; go_simp; try with_reducible rfl)
                  refine wpAny_take (i := 17) (v := ?v49) rfl (by kernel_rfl) (by kernel_rfl) (by kernel_rfl) (fun _ _ _ h => h) (Or.inl ⟨by go_simp, ?hy49⟩) ?rs49
                  case hy49 => (intro w; go_simp; try with_reducible rfl)
                  refine wpAny_ready (rs := [12, 14]) (by kernel_rfl) (by simp) ?_
                  refine AllReady.cons rfl (fun K hK => ?_) (AllReady.cons rfl (fun K hK => ?_) AllReady.nil)
                  · go_simp
                    refine hK _ _ ?_
                    clear hK K
                    refine wpAny_ready (rs := [13, 14]) (by kernel_rfl) (by simp) ?_
                    refine AllReady.cons rfl (fun K hK => ?_) (AllReady.cons rfl (fun K hK => ?_) AllReady.nil)
                    · go_simp
                      clear d0 d1 d2 d3 d4 d5 d6 d7
                      go_wp2_with (go_at_call 28; refine (HNX.out _ HD.out).mono ?_; rintro e wa ⟨rfl, hba⟩; obtain ⟨d0, d1, d2, d3, d4, d5, d6, d7⟩ := HE16.out.below hba; have HBA := Lib.hid hba; clear hba)
                      refine wpAny_ready (rs := [14]) (by kernel_rfl) (by simp) ?_
                      refine AllReady.cons rfl (fun K hK => ?_) AllReady.nil
                      go_simp
                      refine hK _ _ ?_
                      clear hK K
                      refine wpAny_ready (rs := [18]) (by kernel_rfl) (by simp) ?_
                      refine AllReady.cons rfl (fun K hK => ?_) AllReady.nil
                      go_simp
                      go_wp2_with (go_at_call 28; refine (HNR.out _ (bel_both HD.out HBA.out)).mono ?_; rintro e wb ⟨rfl, hbb⟩; have HBB := Lib.hid (bel_both HBA.out hbb); clear hbb)
                      refine wpAny_ready (rs := [19]) (by kernel_rfl) (by simp) ?_
                      refine AllReady.cons rfl (fun K hK => ?_) AllReady.nil
                      go_simp
                      go_wp2_with (go_at_call 18; refine (HBT.out _).mono ?_; rintro e wc ⟨rfl, rfl⟩)
                      refine wpAny_take (i := 20) (v := ?v50) rfl (by kernel_rfl) (by kernel_rfl) (by kernel_rfl) (fun _ _ _ h => h) (Or.inl ⟨by go_simp, ?hy50⟩) ?rs50
                      case hy50 => (intro w; go_simp; try with_reducible rfl)
                      refine wpAny_take (i := 21) (v := ?v51) rfl (by kernel_rfl) (by kernel_rfl) (by kernel_rfl) (fun _ _ _ h => h) (Or.inl ⟨by rfl, ?hy51⟩) ?rs51
                      case hy51 => (intro w; go_simp; try with_reducible rfl)
                      refine wpAny_take (i := 22) (v := ?v52) rfl (by kernel_rfl) (by kernel_rfl) (by kernel_rfl) (fun _ _ _ h => h) (Or.inl ⟨by rfl, ?hy52⟩) ?rs52
                      case hy52 => (intro w; go_simp; try with_reducible rfl)
                      refine wpAny_ready (rs := [23]) (by kernel_rfl) (by simp) ?_
                      refine AllReady.cons rfl (fun K hK => ?_) AllReady.nil
                      go_simp
                      go_wp2_with (go_at_call 6; refine (awake_any14 _).mono ?_; rintro e w17 ⟨rfl, hb17⟩)
                      refine wpAny_take (i := 24) (v := ?v53) rfl (by kernel_rfl) (by kernel_rfl) (by kernel_rfl) (fun _ _ _ h => h) (Or.inl ⟨by rfl, ?hy53⟩) ?rs53
                      case hy53 => (intro w; go_simp; try with_reducible rfl)
                      refine wpAny_take (i := 25) (v := ?v54) rfl (by kernel_rfl) (by kernel_rfl) (by kernel_rfl) (fun _ _ _ h => h) (Or.inl ⟨by rfl, ?hy54⟩) ?rs54
                      case hy54 => (intro w; go_simp; try with_reducible rfl)
                      refine wpAny_done (by kernel_rfl) ?_ _
                      have HB17 := Lib.hid (bel_both (bel_both HB14.out (bel_both HD.out HBB.out)) hb17)
                      clear hb17
                      go_wp2
                      go_ret
                      exact ⟨rfl, HB17.out⟩
                    · go_simp
                      refine hK _ _ ?_
                      clear hK K
                      clear d0 d1 d2 d3 d4 d5 d6 d7
                      refine wpAny_ready (rs := [13]) (by kernel_rfl) (by simp) ?_
                      refine AllReady.cons rfl (fun K hK => ?_) AllReady.nil
                      go_simp
                      go_wp2_with (go_at_call 28; refine (HNX.out _ HD.out).mono ?_; rintro e wa ⟨rfl, hba⟩; obtain ⟨d0, d1, d2, d3, d4, d5, d6, d7⟩ := HE16.out.below hba; have HBA := Lib.hid hba; clear hba)
                      refine wpAny_ready (rs := [18]) (by kernel_rfl) (by simp) ?_
                      refine AllReady.cons rfl (fun K hK => ?_) AllReady.nil
                      go_simp
                      go_wp2_with (go_at_call 28; refine (HNR.out _ (bel_both HD.out HBA.out)).mono ?_; rintro e wb ⟨rfl, hbb⟩; have HBB := Lib.hid (bel_both HBA.out hbb); clear hbb)
                      refine wpAny_ready (rs := [19]) (by kernel_rfl) (by simp) ?_
                      refine AllReady.cons rfl (fun K hK => ?_) AllReady.nil
                      go_simp
                      go_wp2_with (go_at_call 18; refine (HBT.out _).mono ?_; rintro e wc ⟨rfl, rfl⟩)
                      refine wpAny_take (i := 20) (v := ?v55) rfl (by kernel_rfl) (by kernel_rfl) (by kernel_rfl) (fun _ _ _ h => h) (Or.inl ⟨by go_simp, ?hy55⟩) ?rs55
                      case hy55 => (intro w; go_simp; try with_reducible rfl)
                      refine wpAny_take (i := 21) (v := ?v56) rfl (by kernel_rfl) (by kernel_rfl) (by kernel_rfl) (fun _ _ _ h => h) (Or.inl ⟨by rfl, ?hy56⟩) ?rs56
                      case hy56 => (intro w; go_simp; try with_reducible rfl)
                      refine wpAny_take (i := 22) (v := ?v57) rfl (by kernel_rfl) (by kernel_rfl) (by kernel_rfl) (fun _ _ _ h => h) (Or.inl ⟨by rfl, ?hy57⟩) ?rs57
                      case hy57 => (intro w; go_simp; try with_reducible rfl)
                      refine wpAny_ready (rs := [23]) (by kernel_rfl) (by simp) ?_
                      refine AllReady.cons rfl (fun K hK => ?_) AllReady.nil
                      go_simp
                      go_wp2_with (go_at_call 6; refine (awake_any14 _).mono ?_; rintro e w17 ⟨rfl, hb17⟩)
                      refine wpAny_take (i := 24) (v := ?v58) rfl (by kernel_rfl) (by kernel_rfl) (by kernel_rfl) (fun _ _ _ h => h) (Or.inl ⟨by rfl, ?hy58⟩) ?rs58
                      case hy58 => (intro w; go_simp; try with_reducible rfl)
                      refine wpAny_take (i := 25) (v := ?v59) rfl (by kernel_rfl) (by kernel_rfl) (by kernel_rfl) (fun _ _ _ h => h) (Or.inl ⟨by rfl, ?hy59⟩) ?rs59
                      case hy59 => (intro w; go_simp; try with_reducible rfl)
                      refine wpAny_done (by kernel_rfl) ?_ _
                      have HB17 := Lib.hid (bel_both (bel_both HB14.out (bel_both HD.out HBB.out)) hb17)
                      clear hb17
                      go_wp2
                      go_ret
                      exact ⟨rfl, HB17.out⟩
                  · go_simp
                    refine hK _ _ ?_
                    clear hK K
                    clear d0 d1 d2 d3 d4 d5 d6 d7
                    refine wpAny_ready (rs := [12]) (by kernel_rfl) (by simp) ?_
                    refine AllReady.cons rfl (fun K hK => ?_) AllReady.nil
                    go_simp
                    refine hK _ _ ?_
                    clear hK K
                    refine wpAny_ready (rs := [13]) (by kernel_rfl) (by simp) ?_
                    refine AllReady.cons rfl (fun K hK => ?_) AllReady.nil
                    go_simp
                    go_wp2_with (go_at_call 28; refine (HNX.out _ HD.out).mono ?_; rintro e wa ⟨rfl, hba⟩; obtain ⟨d0, d1, d2, d3, d4, d5, d6, d7⟩ := HE16.out.below hba; have HBA := Lib.hid hba; clear hba)
                    refine wpAny_ready (rs := [18]) (by kernel_rfl) (by simp) ?_
                    refine AllReady.cons rfl (fun K hK => ?_) AllReady.nil
                    go_simp
                    go_wp2_with (go_at_call 28; refine (HNR.out _ (bel_both HD.out HBA.out)).mono ?_; rintro e wb ⟨rfl, hbb⟩; have HBB := Lib.hid (bel_both HBA.out hbb); clear hbb)
                    refine wpAny_ready (rs := [19]) (by kernel_rfl) (by simp) ?_
                    refine AllReady.cons rfl (fun K hK => ?_) AllReady.nil
                    go_simp
                    go_wp2_with (go_at_call 18; refine (HBT.out _).mono ?_; rintro e wc ⟨rfl, rfl⟩)
                    refine wpAny_take (i := 20) (v := ?v60) rfl (by kernel_rfl) (by kernel_rfl) (by kernel_rfl) (fun _ _ _ h => h) (Or.inl ⟨by go_simp, ?hy60⟩) ?rs60
                    case hy60 => (intro w; go_simp; try with_reducible rfl)
                    refine wpAny_take (i := 21) (v := ?v61) rfl (by kernel_rfl) (by kernel_rfl) (by kernel_rfl) (fun _ _ _ h => h) (Or.inl ⟨by rfl, ?hy61⟩) ?rs61
                    case hy61 => (intro w; go_simp; try with_reducible rfl)
                    refine wpAny_take (i := 22) (v := ?v62) rfl (by kernel_rfl) (by kernel_rfl) (by kernel_rfl) (fun _ _ _ h => h) (Or.inl ⟨by rfl, ?hy62⟩) ?rs62
                    case hy62 => (intro w; go_simp; try with_reducible rfl)
                    refine wpAny_ready (rs := [23]) (by kernel_rfl) (by simp) ?_
                    refine AllReady.cons rfl (fun K hK => ?_) AllReady.nil
                    go_simp
                    go_wp2_with (go_at_call 6; refine (awake_any14 _).mono ?_; rintro e w17 ⟨rfl, hb17⟩)
                    refine wpAny_take (i := 24) (v := ?v63) rfl (by kernel_rfl) (by kernel_rfl) (by kernel_rfl) (fun _ _ _ h => h) (Or.inl ⟨by rfl, ?hy63⟩) ?rs63
                    case hy63 => (intro w; go_simp; try with_reducible rfl)
                    refine wpAny_take (i := 25) (v := ?v64) rfl (by kernel_rfl) (by kernel_rfl) (by kernel_rfl) (fun _ _ _ h => h) (Or.inl ⟨by rfl, ?hy64⟩) ?rs64
                    case hy64 => (intro w; go_simp; try with_reducible rfl)
                    refine wpAny_done (by kernel_rfl) ?_ _
                    have HB17 := Lib.hid (bel_both (bel_both HB14.out (bel_both HD.out HBB.out)) hb17)
                    clear hb17
                    go_wp2
                    go_ret
                    exact ⟨rfl, HB17.out⟩

set_option maxRecDepth 100000 in
set_option maxHeartbeats 4000000 in
theorem scanLong_bad (f : Int) (a1 a2 : Option Addr) (n1 c1 n2 c2 k m T : Nat) (x : Int) (hx : 0 ≤ x ∧ x ≤ 255) (hk : x % 80 + 1 = (k : Int)) (hm : m = n1 / k) (hT : T = m * k) (h1 : n1 ≤ 300) (h2 : n2 ≤ 60) (B : Nat → Bool) (L : Nat → Int) (w : World)
    (hb : Reads1 w (.slice a1 n1 c1) ((List.range n1).map fun j => .bool (B j))) (hl : Reads1 w (.slice a2 n2 c2) ((List.range n2).map fun j => .int .i64 (L j)))
    (K : Nat) (hK : K < n2) (hS : ∀ j, j < K → -9007199254740992 ≤ L j ∧ L j ≤ 9007199254740992) (hbad : ¬ (-9007199254740992 ≤ L K ∧ L K ≤ 9007199254740992)) :
    Calls Tryz.prog 5 #[.int .i64 f, .slice a1 n1 c1, .int .u8 x, .slice a2 n2 c2] w fun e w' => e = .returned (.bool true) ∧ Below w.heap.size w w' := by
  obtain ⟨x0, x1⟩ := hx
  have HBAD := Lib.hid hbad
  have HBS := Lib.hid hb
  have HLS := Lib.hid hl
  have HSM := Lib.hid hS
  clear hb hl hS hbad
  have k0 : 0 < k := by omega
  have k1 : k ≤ 80 := by omega
  have m0 : m ≤ 300 := by rw [hm]; have := Nat.div_le_self n1 k; omega
  have T0 : T ≤ n1 := by rw [hT, hm]; exact Nat.div_mul_le_self n1 k
  have e1 : (n1 : Int) / (k : Int) = (m : Int) := by rw [hm]; push_cast; rfl
  have e2 : (m : Int) * (k : Int) = (T : Int) := by rw [hT]; push_cast; rfl
  have HB0 := Lib.hid (Below.refl w.heap.size w)
  have HX0 : Hid (Own1 w w.heap.size 47 (.slice none 0 0) ((List.range 0).map fun j => .float .f64 (flagF (B j)))) := Own1.nil _ _ _
  clear hm hT
  go_enter Tryz.func5, Tryz.ntmps5
  go_wp2
  go_loopw [10, 12] (fun v i wr => ∃ j : Nat, j ≤ T ∧ i = .int .i64 j ∧ Own1 wr w.heap.size 47 v ((List.range j).map fun j => .float .f64 (flagF (B j))) ∧ Below w.heap.size w wr) (fun _ i _ => T - (intOf i).toNat)
  case atStart => exact ⟨0, Nat.zero_le _, rfl, HX0.out, HB0.out⟩
  case round =>
    obtain ⟨j, hj, rfl, hown, hbl⟩ := hrel
    have HOWN := Lib.hid hown
    have HBL := Lib.hid hbl
    have hBw : w.heap.size ≤ wr.heap.size := hbl.size
    clear hown hbl
    by_cases hlt : j < T
    · have HFL : Hid ((((List.range j).map fun j => Value.float .f64 (flagF (B j))).length + 1) * 8 ≤ 140737488355328) := by show _ ≤ _; rw [List.length_map, List.length_range]; omega
      have HFL2 : Hid (((List.range j).map fun j => Value.float .f64 (flagF (B j))).length + 1 ≤ 140737488355328) := by show _ ≤ _; rw [List.length_map, List.length_range]; omega
      have hj1 : j < n1 := by omega
      obtain ⟨a', c', hs, hcc⟩ := reads_at HBS.out
      injection hs with hs1 _ hs3
      subst hs1; subst hs3
      obtain ⟨bb, bo, rfl, hc0⟩ := hcc j hj1
      have hcell : wr.cell? ⟨bb, bo + j, none⟩ = some (.bool (B j)) := by rw [HBL.out.cell (cell_lt hc0)]; exact hc0
      clear hc0 hcc
      have HSN := Lib.hid (fun t (h : B j = t) => flags_snoc B j t h)
      obtain ⟨LL, hLL⟩ : ∃ LL, LL = (List.range j).map fun j => Value.float .f64 (flagF (B j)) := ⟨_, rfl⟩
      rw [← hLL] at HOWN HSN HFL HFL2
      clear hLL
      cases hBj : B j with
      | true =>
        have HS := Lib.hid (HSN.out true hBj)
        rw [hBj] at hcell
        clear hBj
        go_wp2_with (at_builtin; refine wpList_push1 rfl (.tmp 56) (.tmp 58) 22 47 rfl Tryz.underlying22 (.float .f64 0) 8 float64_info rfl w.heap.size _ LL rfl HOWN.out (.float .f64 (flagF true)) rfl rfl HFL.out HFL2.out hBw ?_; intro v' w1 hv' hb' hk' hs'; rw [HS.out] at hv'; have HV := Lib.hid hv'; have HB' := Lib.hid (hb' w HBL.out); clear hb' hk' hv')
        go_roundw
        case rel => exact ⟨j + 1, by omega, by go_num, HV.out, HB'.out⟩
        case measure => simp [intOf]; omega
      | false =>
        have HS := Lib.hid (HSN.out false hBj)
        rw [hBj] at hcell
        clear hBj
        go_wp2_with (at_builtin; refine wpList_push1 rfl (.tmp 56) (.tmp 58) 22 47 rfl Tryz.underlying22 (.float .f64 0) 8 float64_info rfl w.heap.size _ LL rfl HOWN.out (.float .f64 (flagF false)) rfl rfl HFL.out HFL2.out hBw ?_; intro v' w1 hv' hb' hk' hs'; rw [HS.out] at hv'; have HV := Lib.hid hv'; have HB' := Lib.hid (hb' w HBL.out); clear hb' hk' hv')
        go_roundw
        case rel => exact ⟨j + 1, by omega, by go_num, HV.out, HB'.out⟩
        case measure => simp [intOf]; omega
    · obtain rfl : j = T := by omega
      obtain ⟨wA, hwA⟩ : ∃ wA, wA = wr := ⟨_, rfl⟩
      subst hwA
      obtain ⟨la, lc, hu, _⟩ := reads_at HOWN.out.reads
      subst hu
      skip
      have HB0' := Lib.hid (Below.refl wA.heap.size wA)
      have HM0 : Hid (Own1 wA wA.heap.size 47 (.slice none 0 0) ((List.range 0).map fun j => .float .f64 (fi (L j)))) := Own1.nil _ _ _
      clear HOWN HB0 HX0
      go_wp2
      go_loopw [11, 14] (fun v i w2 => ∃ q : Nat, q ≤ K ∧ i = .int .i64 q ∧ Own1 w2 wA.heap.size 47 v ((List.range q).map fun j => .float .f64 (fi (L j))) ∧ Below wA.heap.size wA w2) (fun _ i _ => n2 - (intOf i).toNat)
      case atStart => exact ⟨0, Nat.zero_le _, rfl, HM0.out, HB0'.out⟩
      case round =>
        clear HM0 HB0'
        obtain ⟨q, hq, rfl, hown, hbl⟩ := hrel
        have HOWN := Lib.hid hown
        have HBL2 := Lib.hid hbl
        have hBw2 : wA.heap.size ≤ wr.heap.size := hbl.size
        clear hown hbl
        by_cases hlt2 : q < K
        · have HFL : Hid ((((List.range q).map fun j => Value.float .f64 (fi (L j))).length + 1) * 8 ≤ 140737488355328) := by show _ ≤ _; rw [List.length_map, List.length_range]; omega
          have HFL2 : Hid (((List.range q).map fun j => Value.float .f64 (fi (L j))).length + 1 ≤ 140737488355328) := by show _ ≤ _; rw [List.length_map, List.length_range]; omega
          obtain ⟨a', c', hs, hcc⟩ := reads_at HLS.out
          injection hs with hs1 _ hs3
          subst hs1; subst hs3
          obtain ⟨bb, bo, rfl, hc0⟩ := hcc q (by omega)
          have hcell : wr.cell? ⟨bb, bo + q, none⟩ = some (.int .i64 (L q)) := by rw [(bel_both HBL.out HBL2.out).cell (cell_lt hc0)]; exact hc0
          clear hc0 hcc
          have HSA : Hid (∀ W, Calls Tryz.prog 26 #[.int .i64 (L q)] W fun e w' => e = .returned (.bool true) ∧ W = w') := fun W => by
            have h := small_any (L q) W
            rw [decide_eq_true (HSM.out q hlt2)] at h
            exact h
          have HS := Lib.hid (fis_snoc L q)
          obtain ⟨LL, hLL⟩ : ∃ LL, LL = (List.range q).map fun j => Value.float .f64 (fi (L j)) := ⟨_, rfl⟩
          rw [← hLL] at HOWN HS HFL HFL2
          clear hLL
          generalize L q = z at *
          go_wp2_with fail
          refine (HSA.out _).mono ?_
          rintro e w' ⟨rfl, rfl⟩
          go_wp2_with (at_builtin; refine wpList_push1 rfl (.tmp 73) (.tmp 79) 22 47 rfl Tryz.underlying22 (.float .f64 0) 8 float64_info rfl wA.heap.size _ LL rfl HOWN.out (.float .f64 (floatOfInt .f64 z)) rfl rfl HFL.out HFL2.out hBw2 ?_; intro v' w1 hv' hb' hk' hs'; rw [HS.out] at hv'; have HV := Lib.hid hv'; have HB' := Lib.hid (hb' wA HBL2.out); clear hb' hk' hv')
          go_roundw
          case rel => exact ⟨q + 1, by omega, by go_num, HV.out, HB'.out⟩
          case measure => simp [intOf]; omega
        · obtain rfl : q = K := by omega
          obtain ⟨a', c', hs, hcc⟩ := reads_at HLS.out
          injection hs with hs1 _ hs3
          subst hs1; subst hs3
          obtain ⟨bb, bo, rfl, hc0⟩ := hcc q hK
          have hcell : wr.cell? ⟨bb, bo + q, none⟩ = some (.int .i64 (L q)) := by rw [(bel_both HBL.out HBL2.out).cell (cell_lt hc0)]; exact hc0
          clear hc0 hcc
          have HSA : Hid (∀ W, Calls Tryz.prog 26 #[.int .i64 (L q)] W fun e w' => e = .returned (.bool false) ∧ W = w') := fun W => by
            have h := small_any (L q) W
            rw [decide_eq_false HBAD.out] at h
            exact h
          have HBB := Lib.hid (bel_both HBL.out HBL2.out)
          clear HBAD
          generalize L q = z at *
          go_wp2_with fail
          refine (HSA.out _).mono ?_
          rintro e w' ⟨rfl, rfl⟩
          go_wp2_with fail
          refine (awake_any14 _).mono ?_
          rintro e w2 ⟨rfl, hb2⟩
          have HB2 := Lib.hid (bel_both HBB.out hb2)
          clear hb2
          go_wp2
          go_ret
          exact ⟨rfl, HB2.out⟩
end Go.Proofs.YtdddmehchfnppaaGreatDoor
