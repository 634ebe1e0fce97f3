/- The walk of the statement FoldLong. Conditions: as each theorem says. -/
import Derived.Test.YtdddmehchfnppaaDoorMg46
import Derived.IntWalk
namespace Go.Proofs.YtdddmehchfnppaaDoor
open Go Go.RowKit Go.Proofs Fl

/-- a row of truths that came in -/
def BRow (w : World) (v : Value) (n : Nat) (B : Nat → Bool) : Prop :=
  (∃ a c, v = .slice a n c ∧ n ≤ c) ∧ Reads1 w v ((List.range n).map fun j => .bool (B j))
/-- a row of whole numbers that came in -/
def LRow (w : World) (v : Value) (n : Nat) (L : Nat → Int) : Prop :=
  (∃ a c, v = .slice a n c ∧ n ≤ c) ∧ Reads1 w v ((List.range n).map fun j => .int .i64 (L j)) ∧ ∀ j, j < n → -9223372036854775808 ≤ L j ∧ L j ≤ 9223372036854775807
/-- kept tells a Vec of numbers, of no store of whole ones where there are none -/
def KeptK (n T : Nat) (G : Nat → Nat) (w : World) (e : Ending) (w' : World) : Prop :=
  ∃ (k : Int) (b : Sl) (bn : Int) (s i f g x : Sl), e = .returned (.tuple #[vecW k b bn s i f g x, .bool true]) ∧ Keeps (fun _ => False) w' (NumV (vecW k b bn s i f g x) k T G) ∧ (2 ≤ n → k = 3 → 0 < T) ∧ Below w.heap.size w w'

set_option maxRecDepth 100000 in
set_option maxHeartbeats 1000000 in
theorem foldLong_far (f : Int) (a1 a2 : Option Addr) (n1 c1 n2 c2 : Nat) (x : Int) (hx : 0 ≤ x ∧ x ≤ 255) (w : World) (h : 600 < n1 ∨ (n1 ≤ 600 ∧ 100 < n2)) :
    Calls Tryd.prog 3 #[.int .i64 f, .slice a1 n1 c1, .int .u8 x, .slice a2 n2 c2] w fun e w' => e = .returned (.bool true) ∧ Below w.heap.size w w' := by
  obtain ⟨x0, x1⟩ := hx
  rcases h with h1 | ⟨h1, h2⟩
  all_goals
    go_enter Tryd.func3, Tryd.ntmps3
    go_wp2_with fail
    refine (awake_any _).mono ?_
    rintro e w1 ⟨rfl, hb⟩
    have HB := Lib.hid hb
    clear hb
    go_wp2
    go_ret
    exact ⟨rfl, HB.out⟩

theorem flags_snoc (B : Nat → Bool) (i : Nat) (t : Bool) (h : B i = t) : ((List.range i).map fun j => Value.float .f64 (flagF (B j))) ++ [.float .f64 (flagF t)] = (List.range (i + 1)).map fun j => .float .f64 (flagF (B j)) := by
  rw [List.range_succ, List.map_append, ← h]; rfl
theorem fis_snoc (L : Nat → Int) (i : Nat) : ((List.range i).map fun j => Value.float .f64 (fi (L j))) ++ [.float .f64 (floatOfInt .f64 (L i))] = (List.range (i + 1)).map fun j => .float .f64 (fi (L j)) := by
  rw [List.range_succ, List.map_append]; rfl

set_option maxRecDepth 100000 in
set_option maxHeartbeats 4000000 in
theorem foldLong_walk (f : Int) (a1 a2 : Option Addr) (n1 c1 n2 c2 k m T : Nat) (x : Int) (hx : 0 ≤ x ∧ x ≤ 255) (hk : x % 100 + 1 = (k : Int)) (hm : m = n1 / k) (hT : T = m * k) (h1 : n1 ≤ 600) (h2 : n2 ≤ 100) (B : Nat → Bool) (L : Nat → Int) (w : World)
    (hb : Reads1 w (.slice a1 n1 c1) ((List.range n1).map fun j => .bool (B j))) (hl : Reads1 w (.slice a2 n2 c2) ((List.range n2).map fun j => .int .i64 (L j)))
    (hS : ∀ j, j < n2 → -9007199254740992 ≤ L j ∧ L j ≤ 9007199254740992)
    (N1 N2 : Nat) (O1 O2 : Nat → Nat) (E1 E2 : Int) (hN1 : N1 ≤ 1000000) (hN2 : N2 ≤ 1000000) (hO1 : ∀ j, j < N1 → TF (O1 j)) (hO2 : ∀ j, j < N2 → TF (O2 j))
    (hK1 : ∀ W v, Below w.heap.size w W → Reads1 W v ((List.range T).map fun j => .float .f64 (flagF (B j))) → Calls Tryd.prog 9 #[v, .int .i64 1] W (KeptK k T (fun j => flagF (B j)) W))
    (hK2 : ∀ W v, Below w.heap.size w W → Reads1 W v ((List.range n2).map fun j => .float .f64 (fi (L j))) → Calls Tryd.prog 9 #[v, .int .i64 3] W (KeptK n2 n2 (fun j => fi (L j)) W))
    (hF1 : ∀ (W : World) (H : Nat → Prop) k' b bn s i f' g x, Below w.heap.size w W → (∀ b, H b → b < W.heap.size) → (2 ≤ k → k' = 3 → 0 < T) → Keeps H W (NumV (vecW k' b bn s i f' g x) k' T (fun j => flagF (B j))) → Calls Tryd.prog 10 #[.int .i64 f, vecW k' b bn s i f' g x, .int .i64 (m : Int), .int .i64 (k : Int), .int .i64 1] W (AnyFold H N1 O1 E1 W))
    (hR1 : ∀ W v, Below w.heap.size w W → Reads1 W v ((List.range T).map fun j => .float .f64 (flagF (B j))) → Calls Tryd.prog 11 #[.int .i64 f, v, .int .i64 (m : Int), .int .i64 (k : Int), .int .i64 1] W (AnyRow N1 O1 E1 W))
    (hF2 : ∀ (W : World) (H : Nat → Prop) k' b bn s i f' g x, Below w.heap.size w W → (∀ b, H b → b < W.heap.size) → (2 ≤ n2 → k' = 3 → 0 < n2) → Keeps H W (NumV (vecW k' b bn s i f' g x) k' n2 (fun j => fi (L j))) → Calls Tryd.prog 10 #[.int .i64 f, vecW k' b bn s i f' g x, .int .i64 1, .int .i64 (n2 : Int), .int .i64 1] W (AnyFold H N2 O2 E2 W))
    (hR2 : ∀ W v, Below w.heap.size w W → Reads1 W v ((List.range n2).map fun j => .float .f64 (fi (L j))) → Calls Tryd.prog 11 #[.int .i64 f, v, .int .i64 1, .int .i64 (n2 : Int), .int .i64 1] W (AnyRow N2 O2 E2 W)) :
    Calls Tryd.prog 3 #[.int .i64 f, .slice a1 n1 c1, .int .u8 x, .slice a2 n2 c2] w fun e w' => e = .returned (.bool true) ∧ Below w.heap.size w w' := by
  obtain ⟨x0, x1⟩ := hx
  have HK1 := Lib.hid hK1
  have HK2 := Lib.hid hK2
  have HF1 := Lib.hid hF1
  have HF2 := Lib.hid hF2
  have HR1 := Lib.hid hR1
  have HR2 := Lib.hid hR2
  unfold KeptK at HK1 HK2
  unfold AnyFold at HF1 HF2
  unfold AnyRow at HR1 HR2
  have HO1 := Lib.hid hO1
  have HO2 := Lib.hid hO2
  have HBS := Lib.hid hb
  have HLS := Lib.hid hl
  have HSM := Lib.hid hS
  clear hK1 hK2 hF1 hF2 hR1 hR2 hO1 hO2 hb hl hS
  have k0 : 0 < k := by omega
  have k1 : k ≤ 100 := by omega
  have m0 : m ≤ 600 := by rw [hm]; have := Nat.div_le_self n1 k; omega
  have T0 : T ≤ n1 := by rw [hT, hm]; exact Nat.div_mul_le_self n1 k
  have e1 : (n1 : Int) / (k : Int) = (m : Int) := by rw [hm]; push_cast; rfl
  have e2 : (m : Int) * (k : Int) = (T : Int) := by rw [hT]; push_cast; rfl
  have e3 : (T : Int) / (k : Int) = (m : Int) := by rw [← e2]; exact Int.mul_ediv_cancel _ (by omega)
  have HB0 := Lib.hid (Below.refl w.heap.size w)
  have HX0 : Hid (Own1 w w.heap.size 26 (.slice none 0 0) ((List.range 0).map fun j => .float .f64 (flagF (B j)))) := Own1.nil _ _ _
  clear hm hT
  go_enter Tryd.func3, Tryd.ntmps3
  go_wp2
  go_loopw [10, 12] (fun v i wr => ∃ j : Nat, j ≤ T ∧ i = .int .i64 j ∧ Own1 wr w.heap.size 26 v ((List.range j).map fun j => .float .f64 (flagF (B j))) ∧ Below w.heap.size w wr) (fun _ i _ => T - (intOf i).toNat)
  case atStart => exact ⟨0, Nat.zero_le _, rfl, HX0.out, HB0.out⟩
  case round =>
    obtain ⟨j, hj, rfl, hown, hbl⟩ := hrel
    have HOWN := Lib.hid hown
    have HBL := Lib.hid hbl
    have hBw : w.heap.size ≤ wr.heap.size := hbl.size
    clear hown hbl
    by_cases hlt : j < T
    · have HFL : Hid ((((List.range j).map fun j => Value.float .f64 (flagF (B j))).length + 1) * 8 ≤ 140737488355328) := by show _ ≤ _; rw [List.length_map, List.length_range]; omega
      have HFL2 : Hid (((List.range j).map fun j => Value.float .f64 (flagF (B j))).length + 1 ≤ 140737488355328) := by show _ ≤ _; rw [List.length_map, List.length_range]; omega
      have hj1 : j < n1 := by omega
      obtain ⟨a', c', hs, hcc⟩ := reads_at HBS.out
      injection hs with hs1 _ hs3
      subst hs1; subst hs3
      obtain ⟨bb, bo, rfl, hc0⟩ := hcc j hj1
      have hcell : wr.cell? ⟨bb, bo + j, none⟩ = some (.bool (B j)) := by rw [HBL.out.cell (cell_lt hc0)]; exact hc0
      clear hc0 hcc
      have HSN := Lib.hid (fun t (h : B j = t) => flags_snoc B j t h)
      obtain ⟨LL, hLL⟩ : ∃ LL, LL = (List.range j).map fun j => Value.float .f64 (flagF (B j)) := ⟨_, rfl⟩
      rw [← hLL] at HOWN HSN HFL HFL2
      clear hLL
      cases hBj : B j with
      | true =>
        have HS := Lib.hid (HSN.out true hBj)
        rw [hBj] at hcell
        clear hBj
        go_wp2_with (at_builtin; refine wpList_push1 rfl (.tmp 54) (.tmp 56) 25 26 rfl Tryd.underlying25 (.float .f64 0) 8 float64_info rfl w.heap.size _ LL rfl HOWN.out (.float .f64 (flagF true)) rfl rfl HFL.out HFL2.out hBw ?_; intro v' w1 hv' hb' hk' hs'; rw [HS.out] at hv'; have HV := Lib.hid hv'; have HB' := Lib.hid (hb' w HBL.out); clear hb' hk' hv')
        go_roundw
        case rel => exact ⟨j + 1, by omega, by go_num, HV.out, HB'.out⟩
        case measure => simp [intOf]; omega
      | false =>
        have HS := Lib.hid (HSN.out false hBj)
        rw [hBj] at hcell
        clear hBj
        go_wp2_with (at_builtin; refine wpList_push1 rfl (.tmp 54) (.tmp 56) 25 26 rfl Tryd.underlying25 (.float .f64 0) 8 float64_info rfl w.heap.size _ LL rfl HOWN.out (.float .f64 (flagF false)) rfl rfl HFL.out HFL2.out hBw ?_; intro v' w1 hv' hb' hk' hs'; rw [HS.out] at hv'; have HV := Lib.hid hv'; have HB' := Lib.hid (hb' w HBL.out); clear hb' hk' hv')
        go_roundw
        case rel => exact ⟨j + 1, by omega, by go_num, HV.out, HB'.out⟩
        case measure => simp [intOf]; omega
    · obtain rfl : j = T := by omega
      obtain ⟨wA, hwA⟩ : ∃ wA, wA = wr := ⟨_, rfl⟩
      subst hwA
      obtain ⟨la, lc, hu, _⟩ := reads_at HOWN.out.reads
      subst hu
      have HL := Lib.hid HOWN.out.reads
      have HB0' := Lib.hid (Below.refl wA.heap.size wA)
      have HM0 : Hid (Own1 wA wA.heap.size 26 (.slice none 0 0) ((List.range 0).map fun j => .float .f64 (fi (L j)))) := Own1.nil _ _ _
      clear HOWN HB0 HX0
      go_wp2
      go_loopw [11, 14] (fun v i w2 => ∃ q : Nat, q ≤ n2 ∧ i = .int .i64 q ∧ Own1 w2 wA.heap.size 26 v ((List.range q).map fun j => .float .f64 (fi (L j))) ∧ Below wA.heap.size wA w2) (fun _ i _ => n2 - (intOf i).toNat)
      case atStart => exact ⟨0, Nat.zero_le _, rfl, HM0.out, HB0'.out⟩
      case round =>
        clear HM0 HB0'
        obtain ⟨q, hq, rfl, hown, hbl⟩ := hrel
        have HOWN := Lib.hid hown
        have HBL2 := Lib.hid hbl
        have hBw2 : wA.heap.size ≤ wr.heap.size := hbl.size
        clear hown hbl
        by_cases hlt2 : q < n2
        · have HFL : Hid ((((List.range q).map fun j => Value.float .f64 (fi (L j))).length + 1) * 8 ≤ 140737488355328) := by show _ ≤ _; rw [List.length_map, List.length_range]; omega
          have HFL2 : Hid (((List.range q).map fun j => Value.float .f64 (fi (L j))).length + 1 ≤ 140737488355328) := by show _ ≤ _; rw [List.length_map, List.length_range]; omega
          obtain ⟨a', c', hs, hcc⟩ := reads_at HLS.out
          injection hs with hs1 _ hs3
          subst hs1; subst hs3
          obtain ⟨bb, bo, rfl, hc0⟩ := hcc q hlt2
          have hcell : wr.cell? ⟨bb, bo + q, none⟩ = some (.int .i64 (L q)) := by rw [(bel_both HBL.out HBL2.out).cell (cell_lt hc0)]; exact hc0
          clear hc0 hcc
          have HSA : Hid (∀ W, Calls Tryd.prog 8 #[.int .i64 (L q)] W fun e w' => e = .returned (.bool true) ∧ W = w') := fun W => by
            have h := small_any (L q) W
            rw [decide_eq_true (HSM.out q hlt2)] at h
            exact h
          have HS := Lib.hid (fis_snoc L q)
          obtain ⟨LL, hLL⟩ : ∃ LL, LL = (List.range q).map fun j => Value.float .f64 (fi (L j)) := ⟨_, rfl⟩
          rw [← hLL] at HOWN HS HFL HFL2
          clear hLL
          generalize L q = z at *
          go_wp2_with fail
          refine (HSA.out _).mono ?_
          rintro e w' ⟨rfl, rfl⟩
          go_wp2_with (at_builtin; refine wpList_push1 rfl (.tmp 71) (.tmp 77) 25 26 rfl Tryd.underlying25 (.float .f64 0) 8 float64_info rfl wA.heap.size _ LL rfl HOWN.out (.float .f64 (floatOfInt .f64 z)) rfl rfl HFL.out HFL2.out hBw2 ?_; intro v' w1 hv' hb' hk' hs'; rw [HS.out] at hv'; have HV := Lib.hid hv'; have HB' := Lib.hid (hb' wA HBL2.out); clear hb' hk' hv')
          go_roundw
          case rel => exact ⟨q + 1, by omega, by go_num, HV.out, HB'.out⟩
          case measure => simp [intOf]; omega
        · obtain rfl : q = n2 := by omega
          obtain ⟨ma, mc, hu, _⟩ := reads_at HOWN.out.reads
          subst hu
          have HM := Lib.hid HOWN.out.reads
          have HL2 := Lib.hid (HL.out.below HBL2.out)
          have HB2 := Lib.hid (bel_both HBL.out HBL2.out)
          clear HOWN HL HBL HBL2
          go_wp2_with fail
          refine (HK1.out _ _ HB2.out HL2.out).mono ?_
          rintro e w3 ⟨k1, b1, bn1, s1, i1, f1, g1, x1, rfl, hk, h3, hb3⟩
          have HB3 := Lib.hid (bel_both (bel_both HB2.out hb3) (bel1 w3 (.cells #[.int .i64 k1, .slice b1.1 b1.2.1 b1.2.2, .int .i64 bn1, .slice s1.1 s1.2.1 s1.2.2, .slice i1.1 i1.2.1 i1.2.2, .slice f1.1 f1.2.1 f1.2.2, .slice g1.1 g1.2.1 g1.2.2, .slice x1.1 x1.2.1 x1.2.2] 35)))
          have HX3 := Lib.hid (boxed_new w3 35 k1 (.slice b1.1 b1.2.1 b1.2.2) bn1 (.slice s1.1 s1.2.1 s1.2.2) (.slice i1.1 i1.2.1 i1.2.2) (.slice f1.1 f1.2.1 f1.2.2) (.slice g1.1 g1.2.1 g1.2.2) (.slice x1.1 x1.2.1 x1.2.2))
          have HN3 := Lib.hid (hk.step (bel1 w3 (.cells #[.int .i64 k1, .slice b1.1 b1.2.1 b1.2.2, .int .i64 bn1, .slice s1.1 s1.2.1 s1.2.2, .slice i1.1 i1.2.1 i1.2.2, .slice f1.1 f1.2.1 f1.2.2, .slice g1.1 g1.2.1 g1.2.2, .slice x1.1 x1.2.1 x1.2.2] 35)))
          have H31 := Lib.hid h3
          have HL3 := Lib.hid ((HL2.out.below hb3).below (bel1 w3 (.cells #[.int .i64 k1, .slice b1.1 b1.2.1 b1.2.2, .int .i64 bn1, .slice s1.1 s1.2.1 s1.2.2, .slice i1.1 i1.2.1 i1.2.2, .slice f1.1 f1.2.1 f1.2.2, .slice g1.1 g1.2.1 g1.2.2, .slice x1.1 x1.2.1 x1.2.2] 35)))
          have HM3 := Lib.hid ((HM.out.below hb3).below (bel1 w3 (.cells #[.int .i64 k1, .slice b1.1 b1.2.1 b1.2.2, .int .i64 bn1, .slice s1.1 s1.2.1 s1.2.2, .slice i1.1 i1.2.1 i1.2.2, .slice f1.1 f1.2.1 f1.2.2, .slice g1.1 g1.2.1 g1.2.2, .slice x1.1 x1.2.1 x1.2.2] 35)))
          clear hk h3 hb3 HL2 HM HB2
          go_wp2_with fail
          refine (HK2.out _ _ HB3.out HM3.out).mono ?_
          rintro e w4 ⟨k2, b2, bn2, s2, i2, f2, g2, x2, rfl, hk, h3, hb4⟩
          have HB4 := Lib.hid (bel_both (bel_both HB3.out hb4) (bel1 w4 (.cells #[.int .i64 k2, .slice b2.1 b2.2.1 b2.2.2, .int .i64 bn2, .slice s2.1 s2.2.1 s2.2.2, .slice i2.1 i2.2.1 i2.2.2, .slice f2.1 f2.2.1 f2.2.2, .slice g2.1 g2.2.1 g2.2.2, .slice x2.1 x2.2.1 x2.2.2] 35)))
          have HX4 := Lib.hid (boxed_new w4 35 k2 (.slice b2.1 b2.2.1 b2.2.2) bn2 (.slice s2.1 s2.2.1 s2.2.2) (.slice i2.1 i2.2.1 i2.2.2) (.slice f2.1 f2.2.1 f2.2.2) (.slice g2.1 g2.2.1 g2.2.2) (.slice x2.1 x2.2.1 x2.2.2))
          have HY4 := Lib.hid ((HX3.out.below hb4).below (bel1 w4 (.cells #[.int .i64 k2, .slice b2.1 b2.2.1 b2.2.2, .int .i64 bn2, .slice s2.1 s2.2.1 s2.2.2, .slice i2.1 i2.2.1 i2.2.2, .slice f2.1 f2.2.1 f2.2.2, .slice g2.1 g2.2.1 g2.2.2, .slice x2.1 x2.2.1 x2.2.2] 35)))
          have HN4 := Lib.hid (hk.step (bel1 w4 (.cells #[.int .i64 k2, .slice b2.1 b2.2.1 b2.2.2, .int .i64 bn2, .slice s2.1 s2.2.1 s2.2.2, .slice i2.1 i2.2.1 i2.2.2, .slice f2.1 f2.2.1 f2.2.2, .slice g2.1 g2.2.1 g2.2.2, .slice x2.1 x2.2.1 x2.2.2] 35)))
          have HP4 := Lib.hid ((HN3.out.step hb4).step (bel1 w4 (.cells #[.int .i64 k2, .slice b2.1 b2.2.1 b2.2.2, .int .i64 bn2, .slice s2.1 s2.2.1 s2.2.2, .slice i2.1 i2.2.1 i2.2.2, .slice f2.1 f2.2.1 f2.2.2, .slice g2.1 g2.2.1 g2.2.2, .slice x2.1 x2.2.1 x2.2.2] 35)))
          have H32 := Lib.hid h3
          have HL4 := Lib.hid ((HL3.out.below hb4).below (bel1 w4 (.cells #[.int .i64 k2, .slice b2.1 b2.2.1 b2.2.2, .int .i64 bn2, .slice s2.1 s2.2.1 s2.2.2, .slice i2.1 i2.2.1 i2.2.2, .slice f2.1 f2.2.1 f2.2.2, .slice g2.1 g2.2.1 g2.2.2, .slice x2.1 x2.2.1 x2.2.2] 35)))
          have HM4 := Lib.hid ((HM3.out.below hb4).below (bel1 w4 (.cells #[.int .i64 k2, .slice b2.1 b2.2.1 b2.2.2, .int .i64 bn2, .slice s2.1 s2.2.1 s2.2.2, .slice i2.1 i2.2.1 i2.2.2, .slice f2.1 f2.2.1 f2.2.2, .slice g2.1 g2.2.1 g2.2.2, .slice x2.1 x2.2.1 x2.2.2] 35)))
          clear hk h3 hb4 HL3 HM3 HB3 HX3 HN3
          go_wp2
          obtain ⟨w0, hw0⟩ : ∃ w0, w0 = w4.alloc (.cells #[.int .i64 k2, .slice b2.1 b2.2.1 b2.2.2, .int .i64 bn2, .slice s2.1 s2.2.1 s2.2.2, .slice i2.1 i2.2.1 i2.2.2, .slice f2.1 f2.2.1 f2.2.2, .slice g2.1 g2.2.1 g2.2.2, .slice x2.1 x2.2.1 x2.2.2] 35) := ⟨_, rfl⟩
          rw [← hw0] at HB4 HX4 HY4 HN4 HP4 HL4 HM4 ⊢
          clear hw0
          have HFC := Lib.hid (fun W (hs : LdS w0 w3.heap.size k1 (.slice b1.1 b1.2.1 b1.2.2) bn1 (.slice s1.1 s1.2.1 s1.2.2) (.slice i1.1 i1.2.1 i1.2.2) (.slice f1.1 f1.2.1 f1.2.2) (.slice g1.1 g1.2.1 g1.2.2) (.slice x1.1 x1.2.1 x1.2.2) W) => HF1.out W (Hole (fun _ => False) w0 W) _ _ _ _ _ _ _ _ (bel_both HB4.out hs.bel) (Hole.lt (fun _ h => h.elim) hs.bel) H31.out (HP4.out.arg hs.bel))
          go_cut [19, 20] from 89 (fun p ok wx => ok = .int .i64 E1 ∧ VcMid (fun _ => False) w0 (fun u W => NumW u N1 O1 W) p wx)
          case first =>
            have hs0 := (LdS.new HY4.out).dr
            have hs00 := LdS.new HY4.out
            have hz0 := hs00.sz
            have hq1 : (j : Int).tdiv (k : Int) = (m : Int) := by rw [Int.tdiv_eq_ediv_of_nonneg (by omega)]; exact e3
            have hq2 : IntKind.i64.wrap (m : Int) = (m : Int) := IntWalk.i64_in _ (by omega)
            have hq3 : ((k : Int) == 0) = false := by simp; omega
            have hq4 : ¬ (k : Int) = 0 := by omega
            have hq5 : ¬ k = 0 := by omega
            have hq7 : IntKind.i64.wrap ((j : Int).tdiv (k : Int)) = (m : Int) := by rw [hq1]; exact hq2
            go_region_held3 (fun W => (W.cell? ⟨w3.heap.size, 0, none⟩ = some (.int .i64 k1) ∧ W.cell? ⟨w3.heap.size, 1, none⟩ = some (.slice b1.1 b1.2.1 b1.2.2) ∧ W.cell? ⟨w3.heap.size, 2, none⟩ = some (.int .i64 bn1) ∧ W.cell? ⟨w3.heap.size, 3, none⟩ = some (.slice s1.1 s1.2.1 s1.2.2) ∧ W.cell? ⟨w3.heap.size, 4, none⟩ = some (.slice i1.1 i1.2.1 i1.2.2) ∧ W.cell? ⟨w3.heap.size, 5, none⟩ = some (.slice f1.1 f1.2.1 f1.2.2) ∧ W.cell? ⟨w3.heap.size, 6, none⟩ = some (.slice g1.1 g1.2.1 g1.2.2) ∧ W.cell? ⟨w3.heap.size, 7, none⟩ = some (.slice x1.1 x1.2.1 x1.2.2)) ∧ LdS w0 w3.heap.size k1 (.slice b1.1 b1.2.1 b1.2.2) bn1 (.slice s1.1 s1.2.1 s1.2.2) (.slice i1.1 i1.2.1 i1.2.2) (.slice f1.1 f1.2.1 f1.2.2) (.slice g1.1 g1.2.1 g1.2.2) (.slice x1.1 x1.2.1 x1.2.2) W)
              (first | (with_reducible assumption) | (with_reducible (refine ld_s ?_); repeat (first | (with_reducible assumption) | (with_reducible refine LdS.dr ?_) | (with_reducible refine LdS.put ?_ (by first | assumption | omega | (simp; omega)) _) | (with_reducible refine LdS.al ?_ _))))
              (first | (go_at_call 10; (with_reducible refine (HFC.out _ ?_).mono ?_); exact LdS.self (by repeat (first | (with_reducible assumption) | (with_reducible refine LdS.dr ?_) | (with_reducible refine LdS.put ?_ (by first | assumption | omega | (simp; omega)) _) | (with_reducible refine LdS.al ?_ _))); rintro e w6 ⟨k3, b3, bn3, s3, i3, f3, g3, x3, rfl, hk6, hb6⟩; obtain ⟨hc6, hf6⟩ := bcell2 hb6; have hz6 := hb6.size; have hst6 : LdS w0 w3.heap.size k1 (.slice b1.1 b1.2.1 b1.2.2) bn1 (.slice s1.1 s1.2.1 s1.2.2) (.slice i1.1 i1.2.1 i1.2.2) (.slice f1.1 f1.2.1 f1.2.2) (.slice g1.1 g1.2.1 g1.2.2) (.slice x1.1 x1.2.1 x1.2.2) w6 := LdS.step (by repeat (first | (with_reducible assumption) | (with_reducible refine LdS.dr ?_) | (with_reducible refine LdS.put ?_ (by first | assumption | omega | (simp; omega)) _) | (with_reducible refine LdS.al ?_ _))) hb6; have HB6 := Lib.hid hb6; have HK6 := Lib.hid hk6; clear hb6 hk6))
            all_goals
              go_wp2
              go_meet
              refine ⟨rfl, ?_⟩
              first
                | (with_reducible exact vcMid_new hst6 HK6.out)
                | (with_reducible exact vcMid_set (Nat.le_refl _) (lt_al _ _) (blk_al HB6.out) hst6 HK6.out)
                | (with_reducible exact vcMid_set (Nat.le_refl _) (lt_dr _ _) (blk_dr HB6.out) hst6 HK6.out)
                | (with_reducible exact vcMid_set (le_dr _) (lt_al _ _) (blk_al HB6.out) hst6 HK6.out)
                | (with_reducible exact vcMid_set (le_dr _) (lt_dr _ _) (blk_dr HB6.out) hst6 HK6.out)
          case rest =>
            obtain ⟨rfl, G3, k3, b3, bn3, s3, i3, f3, g3, x3, rfl, hG, hGs, hK, hB⟩ := hcut
            have HB6 := Lib.hid (bel_both HB4.out hB)
            have HX6 := Lib.hid (HX4.out.below hB)
            have HY6 := Lib.hid (boxed_of hG).1
            have HN6 := Lib.hid (HN4.out.step hB)
            have HQ6 := Lib.hid hK
            have HL6 := Lib.hid (HL4.out.below hB)
            have HM6 := Lib.hid (HM4.out.below hB)
            clear hG hGs hK hB HB4 HX4 HY4 HN4 HP4 HL4 HM4 HFC
            go_wp2_with fail
            refine (HR1.out _ _ HB6.out HL6.out).mono ?_
            rintro e w7 ⟨v7, rfl, hv, hb7⟩
            have HB7 := Lib.hid (bel_both HB6.out hb7)
            have HX7 := Lib.hid (HX6.out.below hb7)
            have HY7 := Lib.hid (HY6.out.below hb7)
            have HN7 := Lib.hid (HN6.out.step hb7)
            have HQ7 := Lib.hid (HQ6.out.step hb7)
            have HM7 := Lib.hid (HM6.out.below hb7)
            have HV7 := Lib.hid hv
            clear hv hb7 HB6 HX6 HY6 HN6 HQ6 HL6 HM6
            obtain ⟨h0, h1', h2', h3', h4', h5', h6', h7'⟩ := HX7.out
            go_wp2_with fail
            refine (HF2.out _ (fun _ => False) _ _ _ _ _ _ _ _ HB7.out (fun _ h => h.elim) H32.out HN7.out).mono ?_
            clear h0 h1' h2' h3' h4' h5' h6' h7'
            rintro e w8 ⟨k4, b4, bn4, s4, i4, f4, g4, x4, rfl, hk, hb8⟩
            have HB8 := Lib.hid (bel_both (bel_both HB7.out hb8) (bel1 w8 (.cells #[.int .i64 k4, .slice b4.1 b4.2.1 b4.2.2, .int .i64 bn4, .slice s4.1 s4.2.1 s4.2.2, .slice i4.1 i4.2.1 i4.2.2, .slice f4.1 f4.2.1 f4.2.2, .slice g4.1 g4.2.1 g4.2.2, .slice x4.1 x4.2.1 x4.2.2] 35)))
            have HY8 := Lib.hid ((HY7.out.below hb8).below (bel1 w8 (.cells #[.int .i64 k4, .slice b4.1 b4.2.1 b4.2.2, .int .i64 bn4, .slice s4.1 s4.2.1 s4.2.2, .slice i4.1 i4.2.1 i4.2.2, .slice f4.1 f4.2.1 f4.2.2, .slice g4.1 g4.2.1 g4.2.2, .slice x4.1 x4.2.1 x4.2.2] 35)))
            have HZ8 := Lib.hid (boxed_new w8 35 k4 (.slice b4.1 b4.2.1 b4.2.2) bn4 (.slice s4.1 s4.2.1 s4.2.2) (.slice i4.1 i4.2.1 i4.2.2) (.slice f4.1 f4.2.1 f4.2.2) (.slice g4.1 g4.2.1 g4.2.2) (.slice x4.1 x4.2.1 x4.2.2))
            have HQ8 := Lib.hid ((HQ7.out.step hb8).step (bel1 w8 (.cells #[.int .i64 k4, .slice b4.1 b4.2.1 b4.2.2, .int .i64 bn4, .slice s4.1 s4.2.1 s4.2.2, .slice i4.1 i4.2.1 i4.2.2, .slice f4.1 f4.2.1 f4.2.2, .slice g4.1 g4.2.1 g4.2.2, .slice x4.1 x4.2.1 x4.2.2] 35)))
            have HU8 := Lib.hid (hk.step (bel1 w8 (.cells #[.int .i64 k4, .slice b4.1 b4.2.1 b4.2.2, .int .i64 bn4, .slice s4.1 s4.2.1 s4.2.2, .slice i4.1 i4.2.1 i4.2.2, .slice f4.1 f4.2.1 f4.2.2, .slice g4.1 g4.2.1 g4.2.2, .slice x4.1 x4.2.1 x4.2.2] 35)))
            have HV8 := Lib.hid ((HV7.out.below hb8).below (bel1 w8 (.cells #[.int .i64 k4, .slice b4.1 b4.2.1 b4.2.2, .int .i64 bn4, .slice s4.1 s4.2.1 s4.2.2, .slice i4.1 i4.2.1 i4.2.2, .slice f4.1 f4.2.1 f4.2.2, .slice g4.1 g4.2.1 g4.2.2, .slice x4.1 x4.2.1 x4.2.2] 35)))
            have HM8 := Lib.hid ((HM7.out.below hb8).below (bel1 w8 (.cells #[.int .i64 k4, .slice b4.1 b4.2.1 b4.2.2, .int .i64 bn4, .slice s4.1 s4.2.1 s4.2.2, .slice i4.1 i4.2.1 i4.2.2, .slice f4.1 f4.2.1 f4.2.2, .slice g4.1 g4.2.1 g4.2.2, .slice x4.1 x4.2.1 x4.2.2] 35)))
            clear hk hb8 HB7 HX7 HY7 HN7 HQ7 HM7 HV7
            go_wp2_with fail
            refine (HR2.out _ _ HB8.out HM8.out).mono ?_
            rintro e w9 ⟨v9, rfl, hv, hb9⟩
            have HB9 := Lib.hid (bel_both HB8.out hb9)
            have HY9 := Lib.hid (HY8.out.below hb9)
            have HZ9 := Lib.hid (HZ8.out.below hb9)
            have HQ9 := Lib.hid (HQ8.out.step hb9)
            have HU9 := Lib.hid (HU8.out.step hb9)
            have HV9 := Lib.hid (HV8.out.below hb9)
            have HT9 := Lib.hid hv
            clear hv hb9 HB8 HY8 HZ8 HQ8 HU8 HV8 HM8
            obtain ⟨h0, h1', h2', h3', h4', h5', h6', h7'⟩ := HY9.out
            go_wp2_with fail
            refine (nums_walk _ _ _ _ _ _ _ _ _ _ _ (NumW.of HQ9.out) hN1).mono ?_
            rintro e w10 ⟨v10, rfl, hv, hb10⟩
            have HB10 := Lib.hid (bel_both HB9.out hb10)
            have HZ10 := Lib.hid (HZ9.out.below hb10)
            have HU10 := Lib.hid (HU9.out.step hb10)
            have HT10 := Lib.hid (HT9.out.below hb10)
            have HS10 := Lib.hid (same_tf _ _ _ _ _ hv.reads (HV9.out.below hb10) hN1 HO1.out)
            clear hv hb10 HB9 HY9 HZ9 HQ9 HU9 HV9 HT9 h0 h1' h2' h3' h4' h5' h6' h7'
            go_wp2_with fail
            refine HS10.out.mono ?_
            rintro e w11 ⟨rfl, hb11⟩
            have HB11 := Lib.hid (bel_both HB10.out hb11)
            have HZ11 := Lib.hid (HZ10.out.below hb11)
            have HU11 := Lib.hid (HU10.out.step hb11)
            have HT11 := Lib.hid (HT10.out.below hb11)
            clear hb11 HB10 HZ10 HU10 HT10 HS10
            obtain ⟨h0, h1', h2', h3', h4', h5', h6', h7'⟩ := HZ11.out
            go_wp2_with fail
            refine (nums_walk _ _ _ _ _ _ _ _ _ _ _ (NumW.of HU11.out) hN2).mono ?_
            rintro e w12 ⟨v12, rfl, hv, hb12⟩
            have HB12 := Lib.hid (bel_both HB11.out hb12)
            have HS12 := Lib.hid (same_tf _ _ _ _ _ hv.reads (HT11.out.below hb12) hN2 HO2.out)
            clear hv hb12 h0 h1' h2' h3' h4' h5' h6' h7'
            go_wp2_with fail
            refine HS12.out.mono ?_
            rintro e w13 ⟨rfl, hb13⟩
            have HB13 := Lib.hid (bel_both HB12.out hb13)
            clear hb13
            go_wp2_with fail
            refine (awake_any _).mono ?_
            rintro e w14 ⟨rfl, hb14⟩
            have HB14 := Lib.hid (bel_both HB13.out hb14)
            clear hb14
            go_wp2
            go_ret
            exact ⟨rfl, HB14.out⟩

set_option maxRecDepth 100000 in
set_option maxHeartbeats 4000000 in
theorem foldLong_bad (f : Int) (a1 a2 : Option Addr) (n1 c1 n2 c2 k m T : Nat) (x : Int) (hx : 0 ≤ x ∧ x ≤ 255) (hk : x % 100 + 1 = (k : Int)) (hm : m = n1 / k) (hT : T = m * k) (h1 : n1 ≤ 600) (h2 : n2 ≤ 100) (B : Nat → Bool) (L : Nat → Int) (w : World)
    (hb : Reads1 w (.slice a1 n1 c1) ((List.range n1).map fun j => .bool (B j))) (hl : Reads1 w (.slice a2 n2 c2) ((List.range n2).map fun j => .int .i64 (L j)))
    (K : Nat) (hK : K < n2) (hS : ∀ j, j < K → -9007199254740992 ≤ L j ∧ L j ≤ 9007199254740992) (hbad : ¬ (-9007199254740992 ≤ L K ∧ L K ≤ 9007199254740992)) :
    Calls Tryd.prog 3 #[.int .i64 f, .slice a1 n1 c1, .int .u8 x, .slice a2 n2 c2] w fun e w' => e = .returned (.bool true) ∧ Below w.heap.size w w' := by
  obtain ⟨x0, x1⟩ := hx
  have HBAD := Lib.hid hbad
  have HBS := Lib.hid hb
  have HLS := Lib.hid hl
  have HSM := Lib.hid hS
  clear hb hl hS hbad
  have k0 : 0 < k := by omega
  have k1 : k ≤ 100 := by omega
  have m0 : m ≤ 600 := by rw [hm]; have := Nat.div_le_self n1 k; omega
  have T0 : T ≤ n1 := by rw [hT, hm]; exact Nat.div_mul_le_self n1 k
  have e1 : (n1 : Int) / (k : Int) = (m : Int) := by rw [hm]; push_cast; rfl
  have e2 : (m : Int) * (k : Int) = (T : Int) := by rw [hT]; push_cast; rfl
  have HB0 := Lib.hid (Below.refl w.heap.size w)
  have HX0 : Hid (Own1 w w.heap.size 26 (.slice none 0 0) ((List.range 0).map fun j => .float .f64 (flagF (B j)))) := Own1.nil _ _ _
  clear hm hT
  go_enter Tryd.func3, Tryd.ntmps3
  go_wp2
  go_loopw [10, 12] (fun v i wr => ∃ j : Nat, j ≤ T ∧ i = .int .i64 j ∧ Own1 wr w.heap.size 26 v ((List.range j).map fun j => .float .f64 (flagF (B j))) ∧ Below w.heap.size w wr) (fun _ i _ => T - (intOf i).toNat)
  case atStart => exact ⟨0, Nat.zero_le _, rfl, HX0.out, HB0.out⟩
  case round =>
    obtain ⟨j, hj, rfl, hown, hbl⟩ := hrel
    have HOWN := Lib.hid hown
    have HBL := Lib.hid hbl
    have hBw : w.heap.size ≤ wr.heap.size := hbl.size
    clear hown hbl
    by_cases hlt : j < T
    · have HFL : Hid ((((List.range j).map fun j => Value.float .f64 (flagF (B j))).length + 1) * 8 ≤ 140737488355328) := by show _ ≤ _; rw [List.length_map, List.length_range]; omega
      have HFL2 : Hid (((List.range j).map fun j => Value.float .f64 (flagF (B j))).length + 1 ≤ 140737488355328) := by show _ ≤ _; rw [List.length_map, List.length_range]; omega
      have hj1 : j < n1 := by omega
      obtain ⟨a', c', hs, hcc⟩ := reads_at HBS.out
      injection hs with hs1 _ hs3
      subst hs1; subst hs3
      obtain ⟨bb, bo, rfl, hc0⟩ := hcc j hj1
      have hcell : wr.cell? ⟨bb, bo + j, none⟩ = some (.bool (B j)) := by rw [HBL.out.cell (cell_lt hc0)]; exact hc0
      clear hc0 hcc
      have HSN := Lib.hid (fun t (h : B j = t) => flags_snoc B j t h)
      obtain ⟨LL, hLL⟩ : ∃ LL, LL = (List.range j).map fun j => Value.float .f64 (flagF (B j)) := ⟨_, rfl⟩
      rw [← hLL] at HOWN HSN HFL HFL2
      clear hLL
      cases hBj : B j with
      | true =>
        have HS := Lib.hid (HSN.out true hBj)
        rw [hBj] at hcell
        clear hBj
        go_wp2_with (at_builtin; refine wpList_push1 rfl (.tmp 54) (.tmp 56) 25 26 rfl Tryd.underlying25 (.float .f64 0) 8 float64_info rfl w.heap.size _ LL rfl HOWN.out (.float .f64 (flagF true)) rfl rfl HFL.out HFL2.out hBw ?_; intro v' w1 hv' hb' hk' hs'; rw [HS.out] at hv'; have HV := Lib.hid hv'; have HB' := Lib.hid (hb' w HBL.out); clear hb' hk' hv')
        go_roundw
        case rel => exact ⟨j + 1, by omega, by go_num, HV.out, HB'.out⟩
        case measure => simp [intOf]; omega
      | false =>
        have HS := Lib.hid (HSN.out false hBj)
        rw [hBj] at hcell
        clear hBj
        go_wp2_with (at_builtin; refine wpList_push1 rfl (.tmp 54) (.tmp 56) 25 26 rfl Tryd.underlying25 (.float .f64 0) 8 float64_info rfl w.heap.size _ LL rfl HOWN.out (.float .f64 (flagF false)) rfl rfl HFL.out HFL2.out hBw ?_; intro v' w1 hv' hb' hk' hs'; rw [HS.out] at hv'; have HV := Lib.hid hv'; have HB' := Lib.hid (hb' w HBL.out); clear hb' hk' hv')
        go_roundw
        case rel => exact ⟨j + 1, by omega, by go_num, HV.out, HB'.out⟩
        case measure => simp [intOf]; omega
    · obtain rfl : j = T := by omega
      obtain ⟨wA, hwA⟩ : ∃ wA, wA = wr := ⟨_, rfl⟩
      subst hwA
      obtain ⟨la, lc, hu, _⟩ := reads_at HOWN.out.reads
      subst hu
      skip
      have HB0' := Lib.hid (Below.refl wA.heap.size wA)
      have HM0 : Hid (Own1 wA wA.heap.size 26 (.slice none 0 0) ((List.range 0).map fun j => .float .f64 (fi (L j)))) := Own1.nil _ _ _
      clear HOWN HB0 HX0
      go_wp2
      go_loopw [11, 14] (fun v i w2 => ∃ q : Nat, q ≤ K ∧ i = .int .i64 q ∧ Own1 w2 wA.heap.size 26 v ((List.range q).map fun j => .float .f64 (fi (L j))) ∧ Below wA.heap.size wA w2) (fun _ i _ => n2 - (intOf i).toNat)
      case atStart => exact ⟨0, Nat.zero_le _, rfl, HM0.out, HB0'.out⟩
      case round =>
        clear HM0 HB0'
        obtain ⟨q, hq, rfl, hown, hbl⟩ := hrel
        have HOWN := Lib.hid hown
        have HBL2 := Lib.hid hbl
        have hBw2 : wA.heap.size ≤ wr.heap.size := hbl.size
        clear hown hbl
        by_cases hlt2 : q < K
        · have HFL : Hid ((((List.range q).map fun j => Value.float .f64 (fi (L j))).length + 1) * 8 ≤ 140737488355328) := by show _ ≤ _; rw [List.length_map, List.length_range]; omega
          have HFL2 : Hid (((List.range q).map fun j => Value.float .f64 (fi (L j))).length + 1 ≤ 140737488355328) := by show _ ≤ _; rw [List.length_map, List.length_range]; omega
          obtain ⟨a', c', hs, hcc⟩ := reads_at HLS.out
          injection hs with hs1 _ hs3
          subst hs1; subst hs3
          obtain ⟨bb, bo, rfl, hc0⟩ := hcc q (by omega)
          have hcell : wr.cell? ⟨bb, bo + q, none⟩ = some (.int .i64 (L q)) := by rw [(bel_both HBL.out HBL2.out).cell (cell_lt hc0)]; exact hc0
          clear hc0 hcc
          have HSA : Hid (∀ W, Calls Tryd.prog 8 #[.int .i64 (L q)] W fun e w' => e = .returned (.bool true) ∧ W = w') := fun W => by
            have h := small_any (L q) W
            rw [decide_eq_true (HSM.out q hlt2)] at h
            exact h
          have HS := Lib.hid (fis_snoc L q)
          obtain ⟨LL, hLL⟩ : ∃ LL, LL = (List.range q).map fun j => Value.float .f64 (fi (L j)) := ⟨_, rfl⟩
          rw [← hLL] at HOWN HS HFL HFL2
          clear hLL
          generalize L q = z at *
          go_wp2_with fail
          refine (HSA.out _).mono ?_
          rintro e w' ⟨rfl, rfl⟩
          go_wp2_with (at_builtin; refine wpList_push1 rfl (.tmp 71) (.tmp 77) 25 26 rfl Tryd.underlying25 (.float .f64 0) 8 float64_info rfl wA.heap.size _ LL rfl HOWN.out (.float .f64 (floatOfInt .f64 z)) rfl rfl HFL.out HFL2.out hBw2 ?_; intro v' w1 hv' hb' hk' hs'; rw [HS.out] at hv'; have HV := Lib.hid hv'; have HB' := Lib.hid (hb' wA HBL2.out); clear hb' hk' hv')
          go_roundw
          case rel => exact ⟨q + 1, by omega, by go_num, HV.out, HB'.out⟩
          case measure => simp [intOf]; omega
        · obtain rfl : q = K := by omega
          obtain ⟨a', c', hs, hcc⟩ := reads_at HLS.out
          injection hs with hs1 _ hs3
          subst hs1; subst hs3
          obtain ⟨bb, bo, rfl, hc0⟩ := hcc q hK
          have hcell : wr.cell? ⟨bb, bo + q, none⟩ = some (.int .i64 (L q)) := by rw [(bel_both HBL.out HBL2.out).cell (cell_lt hc0)]; exact hc0
          clear hc0 hcc
          have HSA : Hid (∀ W, Calls Tryd.prog 8 #[.int .i64 (L q)] W fun e w' => e = .returned (.bool false) ∧ W = w') := fun W => by
            have h := small_any (L q) W
            rw [decide_eq_false HBAD.out] at h
            exact h
          have HBB := Lib.hid (bel_both HBL.out HBL2.out)
          clear HBAD
          generalize L q = z at *
          go_wp2_with fail
          refine (HSA.out _).mono ?_
          rintro e w' ⟨rfl, rfl⟩
          go_wp2_with fail
          refine (awake_any _).mono ?_
          rintro e w2 ⟨rfl, hb2⟩
          have HB2 := Lib.hid (bel_both HBB.out hb2)
          clear hb2
          go_wp2
          go_ret
          exact ⟨rfl, HB2.out⟩
end Go.Proofs.YtdddmehchfnppaaDoor
