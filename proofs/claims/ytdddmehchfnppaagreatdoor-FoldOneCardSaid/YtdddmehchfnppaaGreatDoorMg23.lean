/- The walks of squeeze.whole, squeeze.intoSmalls and squeeze.wholes, both outcomes. Conditions: as each theorem says. -/
import Derived.Test.YtdddmehchfnppaaGreatDoorMg22
namespace Go.Proofs.YtdddmehchfnppaaGreatDoor
open Go Go.RowKit Go.Proofs Fl

/-- what squeeze.whole tells of a number -/
def SqW (b : Nat) (w : World) (e : Ending) (w' : World) : Prop :=
  ((∃ z, wholeP b = some z ∧ e = .returned (.tuple #[.int .i64 z, .bool true])) ∨ (wholeP b = none ∧ ∃ m : Int, e = .returned (.tuple #[.int .i64 m, .bool false]))) ∧ Below w.heap.size w w'

set_option maxHeartbeats 1000000 in
theorem sqwhole_int (k : Int) (hk : k ≠ 4) (b : Value) (bn : Int) (s i f c x : Value) (n : Nat) (F : Nat → Nat) (w : World)
    (hN : ∀ W, Below w.heap.size w W → NumV (vecV k b bn s i f c x) k n F W) (j : Nat) (hj : j < n) :
    Calls Tryz.prog 106 #[vecV k b bn s i f c x, .int .i64 (j : Int)] w (SqW (F j) w) := by
  obtain ⟨z, hz, e⟩ := (hN w (Below.refl _ _)).ints hk j hj
  have HV := Lib.hid ((hN _ (bel1 w (.cells #[.int .i64 k, b, .int .i64 bn, s, i, f, c, x] 32))).wholeI hk j hj z hz e)
  have HW : Hid (wholeP (F j) = some z) := by show _ = _; rw [e]; exact wholeP_fi hz
  clear hN e
  go_enter Tryz.func106, Tryz.ntmps106
  go_wp2_with fail
  refine HV.out.mono ?_
  rintro e w1 ⟨rfl, hb1⟩
  have HB1 := Lib.hid (bel_both (bel1 w _) hb1)
  clear hb1
  go_wp2
  go_ret2
  exact ⟨.inl ⟨z, HW.out, rfl⟩, HB1.out⟩
set_option maxHeartbeats 1000000 in
theorem sqwhole_float (b : Value) (bn : Int) (s i f c x : Value) (n : Nat) (F : Nat → Nat) (w : World)
    (hN : ∀ W, Below w.heap.size w W → NumV (vecV 4 b bn s i f c x) 4 n F W) (j : Nat) (hj : j < n) :
    Calls Tryz.prog 106 #[vecV 4 b bn s i f c x, .int .i64 (j : Int)] w (SqW (F j) w) := by
  have HN := Lib.hid hN
  have HV := Lib.hid ((hN _ (bel1 w (.cells #[.int .i64 4, b, .int .i64 bn, s, i, f, c, x] 32))).wholeF rfl j hj)
  have HTF := Lib.hid ((hN w (Below.refl _ _)).tf j hj)
  clear hN
  go_enter Tryz.func106, Tryz.ntmps106
  go_wp2_with fail
  refine HV.out.mono ?_
  rintro e w1 ⟨rfl, hb1⟩
  have HB1 := Lib.hid (bel_both (bel1 w _) hb1)
  obtain ⟨h0, h1, h2, h3, h4, h5, h6, h7⟩ := (boxed_new w 32 4 b bn s i f c x).below hb1
  clear hb1
  go_wp2_with fail
  refine ((HN.out _ HB1.out).num j hj).mono ?_
  rintro e w2 ⟨rfl, hb2⟩
  have HB2 := Lib.hid (bel_both HB1.out hb2)
  clear hb2 h0 h1 h2 h3 h4 h5 h6 h7
  rcases whole_cases HTF.out with ⟨z, hz, e, hwz⟩ | ⟨hno, t, Z, hZ, e, hnw⟩
  · have HZ := Lib.hid (fun W => nwhole_fi z hz W)
    have HWZ := Lib.hid hwz
    rw [← e] at HZ
    clear e hz hwz
    generalize F j = y at *
    go_wp2_with fail
    refine (HZ.out _).mono ?_
    rintro e w3 ⟨rfl, rfl⟩
    go_wp2
    go_ret2
    exact ⟨.inl ⟨z, HWZ.out, rfl⟩, HB2.out⟩
  · have HZ := Lib.hid (fun W => nwhole_no t hZ hnw W)
    have HWZ := Lib.hid hno
    rw [← e] at HZ
    clear e hZ hno hnw
    generalize F j = y at *
    go_wp2_with fail
    refine (HZ.out _).mono ?_
    rintro e w3 ⟨⟨m, rfl⟩, rfl⟩
    go_wp2
    go_ret2
    exact ⟨.inr ⟨HWZ.out, m, rfl⟩, HB2.out⟩
theorem sqwhole_any (k : Int) (b : Value) (bn : Int) (s i f c x : Value) (n : Nat) (F : Nat → Nat) (w : World)
    (hN : ∀ W, Below w.heap.size w W → NumV (vecV k b bn s i f c x) k n F W) (j : Nat) (hj : j < n) :
    Calls Tryz.prog 106 #[vecV k b bn s i f c x, .int .i64 (j : Int)] w (SqW (F j) w) := by
  by_cases hk : k = 4
  · subst hk; exact sqwhole_float b bn s i f c x n F w hN j hj
  · exact sqwhole_int k hk b bn s i f c x n F w hN j hj

/-- a number as a whole one; 0 where it is none -/
noncomputable def zOf (b : Nat) : Int := (wholeP b).getD 0
theorem zOf_of {b : Nat} {z : Int} (h : wholeP b = some z) : zOf b = z := by unfold zOf; rw [h]; rfl
noncomputable def smallB (b : Nat) : Bool := match wholeP b with
  | some z => decide (-128 ≤ z ∧ z ≤ 127)
  | none => false
theorem smallB_of {b : Nat} (h : smallB b = true) : ∃ z, wholeP b = some z ∧ -128 ≤ z ∧ z ≤ 127 := by
  unfold smallB at h
  split at h
  · rename_i z e; exact ⟨z, e, of_decide_eq_true h⟩
  · cases h

def YesSmall (n : Nat) (F : Nat → Nat) (w : World) (e : Ending) (w' : World) : Prop :=
  ∃ a n' c', e = .returned (.tuple #[vecV 2 vnil 0 (.slice a n' c') vnil vnil vnil vnil, .bool true]) ∧ Own1 w' w.heap.size 86 (.slice a n' c') ((List.range n).map fun j => .int .i8 (zOf (F j))) ∧ Below w.heap.size w w'
def SmallOut (n K : Nat) (F : Nat → Nat) (w : World) (e : Ending) (w' : World) : Prop := (K = n ∧ YesSmall n F w e w') ∨ (K < n ∧ NoVec w e w')

set_option maxRecDepth 100000 in
set_option maxHeartbeats 2000000 in
theorem intoSmalls_any (k : Int) (b : Value) (bn : Int) (s i f c x : Value) (n K : Nat) (F : Nat → Nat) (w : World) (hn : n ≤ 1000000)
    (hN : ∀ W, Below w.heap.size w W → NumV (vecV k b bn s i f c x) k n F W) (hK : K ≤ n) (hyes : ∀ j, j < K → smallB (F j) = true) (hno : K < n → smallB (F K) = false) :
    Calls Tryz.prog 62 #[vecV k b bn s i f c x] w (SmallOut n K F w) := by
  have HN := Lib.hid hN
  have HY := Lib.hid hyes
  have HNO := Lib.hid hno
  have hmk := run_make_row' (P := Tryz.prog) 27 86 (.int .i8 0) 1 Tryz.underlying27 info_i8 rfl .i64 .i64 n (by omega) (by omega)
  clear hN hyes hno
  go_enter Tryz.func62, Tryz.ntmps62
  go_wp2_with fail
  refine (HN.out _ (bel2 w _ _)).len.mono ?_
  rintro e w1 ⟨rfl, hb1⟩
  have HS1 := Lib.hid ((St.new w k b bn s i f c x).step hb1)
  clear hb1
  have HGN : Hid (w.heap.size + 2 ≤ w1.heap.size) := HS1.out.sz
  have HF0 := Lib.hid (Fill.made w1 (w.heap.size + 2) HS1.out.sz 86 (fun j => .int .i8 (zOf (F j))) (.int .i8 0) n (by unfold maxLen; omega))
  have HSM := Lib.hid (HS1.out.al (.cells (madeCells #[.int .i8 0] n) 86))
  go_wp2_with fail
  go_loopw [13] (fun j wr => ∃ m : Nat, m ≤ K ∧ j = .int .i64 m ∧ Fill wr (w.heap.size + 2) w1.heap.size 86 (fun j => .int .i8 (zOf (F j))) (.int .i8 0) n m ∧ St w wr k b bn s i f c x) (fun j _ => n - (intOf j).toNat)
  case atStart => exact ⟨0, Nat.zero_le _, rfl, HF0.out, HSM.out⟩
  case round =>
    clear hmk HF0 HSM HS1
    obtain ⟨m, hm, rfl, hf, hst⟩ := hrel
    have HF := Lib.hid hf
    have HST := Lib.hid hst
    clear hf hst
    by_cases hlt : m < n
    · obtain ⟨h0, h1, h2, h3, h4, h5, h6, h7⟩ := HST.out.box
      have hlt2 : (m : Int) < (n : Int) := by omega
      have HWH := Lib.hid (sqwhole_any k b bn s i f c x n F wr (fun W hb => HN.out W (bel_both HST.out.bel hb)) m hlt)
      go_wp2_with fail
      refine HWH.out.mono ?_
      rintro e w3 ⟨hres, hb3⟩
      have HS3 := Lib.hid (HST.out.step hb3)
      have HF3 := Lib.hid (HF.out.below hb3)
      clear hb3 h0 h1 h2 h3 h4 h5 h6 h7
      by_cases hmK : m < K
      · obtain ⟨z, hwz, hz1, hz2⟩ := smallB_of (HY.out m hmK)
        have hez : zOf (F m) = z := zOf_of hwz
        have HP3 := Lib.hid (HF3.out.put hlt)
        have HS3' := Lib.hid (HS3.out.put (g := w1.heap.size) (j := m) HGN.out (.int .i8 (zOf (F m))))
        have hc3 := HF3.out.cell hlt
        have hz3 := HF3.out.frozen m
        rw [hez] at HP3 HS3'
        rcases hres with ⟨z', e1, rfl⟩ | ⟨e1, _⟩
        · rw [hwz] at e1
          injection e1 with e1
          subst e1
          clear hwz hez
          go_wp2
          go_roundw
          case rel => exact ⟨m + 1, by omega, by go_num, HP3.out, HS3'.out⟩
          case measure => simp [intOf]; omega
        · rw [hwz] at e1; cases e1
      · obtain rfl : m = K := by omega
        have hbad := HNO.out hlt
        obtain ⟨⟨h0, h1, h2, h3, h4, h5, h6, h7⟩, hz⟩ := boxed_of HS3.out.res
        rcases hres with ⟨z', e1, rfl⟩ | ⟨e1, mm, rfl⟩
        · have hout : ¬ (-128 ≤ z' ∧ z' ≤ 127) := by
            intro hh
            unfold smallB at hbad
            rw [e1] at hbad
            have hb2 : decide (-128 ≤ z' ∧ z' ≤ 127) = false := hbad
            rw [decide_eq_true hh] at hb2
            cases hb2
          clear e1 hbad
          by_cases hlow : z' < -128
          · go_wp2
            refine bodyPost_ret (v := .tuple #[vecV 0 vnil 0 vnil vnil vnil vnil vnil, .bool false]) ?_ rfl (.inr ⟨hlt, rfl, below_set8 HS3.out.bel (Nat.le_succ _) _ _ _ _ _ _ _ _⟩)
            exact ret_vec2 (fn := Tryz.f62) (p := 2) (u := 3) rfl _ _ (w.heap.size + 1) (by rfl) (set8_block HS3.out.res _ _ _ _ _ _ _ _)
          · have hhigh : 127 < z' := by omega
            clear hout
            go_wp2
            refine bodyPost_ret (v := .tuple #[vecV 0 vnil 0 vnil vnil vnil vnil vnil, .bool false]) ?_ rfl (.inr ⟨hlt, rfl, below_set8 HS3.out.bel (Nat.le_succ _) _ _ _ _ _ _ _ _⟩)
            exact ret_vec2 (fn := Tryz.f62) (p := 2) (u := 3) rfl _ _ (w.heap.size + 1) (by rfl) (set8_block HS3.out.res _ _ _ _ _ _ _ _)
        · clear e1 hbad
          go_wp2
          refine bodyPost_ret (v := .tuple #[vecV 0 vnil 0 vnil vnil vnil vnil vnil, .bool false]) ?_ rfl (.inr ⟨hlt, rfl, below_set8 HS3.out.bel (Nat.le_succ _) _ _ _ _ _ _ _ _⟩)
          exact ret_vec2 (fn := Tryz.f62) (p := 2) (u := 3) rfl _ _ (w.heap.size + 1) (by rfl) (set8_block HS3.out.res _ _ _ _ _ _ _ _)
    · obtain rfl : m = n := by omega
      obtain rfl : K = m := by omega
      have HSS := Lib.hid (smalls_any (w := wr) (l := (List.range K).map fun j => zOf (F j)) (v := .slice (some ⟨w1.heap.size, 0, none⟩) K K) (by rw [List.map_map]; exact HF.out.own.reads) (by simp; omega))
      go_wp2_with fail
      refine HSS.out.mono ?_
      rintro e w4 ⟨u, rfl, ho, hb4⟩
      have HS4 := Lib.hid (HST.out.step hb4)
      have HO := Lib.hid (ho.lower (show w.heap.size + 2 ≤ wr.heap.size from HST.out.sz))
      rw [List.map_map] at HO
      obtain ⟨a, n', c', hu⟩ : ∃ a n c, u = .slice a n c := by obtain ⟨a, c, e⟩ := ho.reads.len; exact ⟨a, _, c, e⟩
      subst hu
      have HNE : Hid ((Value.slice a n' c').ownBlock ≠ some (w.heap.size + 1)) := fun e => by have := (World.ownsRow.lt HO.out _ e).1; omega
      clear hb4 ho
      obtain ⟨⟨h0, h1, h2, h3, h4, h5, h6, h7⟩, hz⟩ := boxed_of HS4.out.res
      go_wp2
      refine bodyPost_ret (v := .tuple #[vecV 2 vnil 0 (.slice a n' c') vnil vnil vnil vnil, .bool true]) ?_ rfl (.inl ⟨rfl, a, n', c', rfl, own_set8 (HO.out.lower (by omega)) HNE.out _ _ _ _ _ _ _ _, below_set8 HS4.out.bel (Nat.le_succ _) _ _ _ _ _ _ _ _⟩)
      exact ret_vec2 (fn := Tryz.f62) (p := 2) (u := 3) rfl _ _ (w.heap.size + 1) (by rfl) (set8_block HS4.out.res _ _ _ _ _ _ _ _)

/-- what squeeze.wholes tells; K: the first place that is no whole number, or n -/
def WhsOut (n K : Nat) (F : Nat → Nat) (w : World) (e : Ending) (w' : World) : Prop :=
  (K = n ∧ ∃ g, e = .returned (.tuple #[.slice (some ⟨g, 0, none⟩) n n, .bool true]) ∧ Own1 w' w.heap.size 2 (.slice (some ⟨g, 0, none⟩) n n) ((List.range n).map fun j => .int .i64 (zOf (F j))) ∧ Below w.heap.size w w') ∨
  (K < n ∧ e = .returned (.tuple #[.slice none 0 0, .bool false]) ∧ Below w.heap.size w w')

set_option maxRecDepth 100000 in
set_option maxHeartbeats 2000000 in
theorem sqwholes_any (k : Int) (b : Value) (bn : Int) (s i f c x : Value) (n K : Nat) (F : Nat → Nat) (w : World) (hn : n ≤ 1000000)
    (hN : ∀ W, Below w.heap.size w W → NumV (vecV k b bn s i f c x) k n F W) (hK : K ≤ n) (hyes : ∀ j, j < K → ∃ z, wholeP (F j) = some z) (hno : K < n → wholeP (F K) = none) :
    Calls Tryz.prog 63 #[vecV k b bn s i f c x] w (WhsOut n K F w) := by
  have HN := Lib.hid hN
  have HY := Lib.hid hyes
  have HNO := Lib.hid hno
  have hmk := run_make_row' (P := Tryz.prog) 28 2 (.int .i64 0) 8 Tryz.underlying28 info_i64 rfl .i64 .i64 n (by omega) (by omega)
  clear hN hyes hno
  go_enter Tryz.func63, Tryz.ntmps63
  go_wp2_with fail
  refine (HN.out _ (bel1 w _)).len.mono ?_
  rintro e w1 ⟨rfl, hb1⟩
  have HX1 := Lib.hid ((boxed_new w 32 k b bn s i f c x).below hb1)
  have HB1 := Lib.hid (bel_both (bel1 w _) hb1)
  clear hb1
  have HGN : Hid (w.heap.size + 1 ≤ w1.heap.size) := HX1.out.lt
  have HF0 := Lib.hid (Fill.made w1 w.heap.size HB1.out.size 2 (fun j => .int .i64 (zOf (F j))) (.int .i64 0) n (by unfold maxLen; omega))
  have HBM := Lib.hid (HB1.out.alloc HB1.out.size (.cells (madeCells #[.int .i64 0] n) 2))
  have HXM := Lib.hid (HX1.out.below (bel1 w1 (.cells (madeCells #[.int .i64 0] n) 2)))
  go_wp2_with fail
  go_loopw [13] (fun j wr => ∃ m : Nat, m ≤ K ∧ j = .int .i64 m ∧ Fill wr w.heap.size w1.heap.size 2 (fun j => .int .i64 (zOf (F j))) (.int .i64 0) n m ∧ Below w.heap.size w wr ∧ Boxed wr w.heap.size k b bn s i f c x) (fun j _ => n - (intOf j).toNat)
  case atStart => exact ⟨0, Nat.zero_le _, rfl, HF0.out, HBM.out, HXM.out⟩
  case round =>
    clear hmk HF0 HBM HXM HB1 HX1
    obtain ⟨m, hm, rfl, hf, hbl, hx⟩ := hrel
    have HF := Lib.hid hf
    have HBL := Lib.hid hbl
    have HX := Lib.hid hx
    clear hf hbl
    by_cases hlt : m < n
    · obtain ⟨h0, h1, h2, h3, h4, h5, h6, h7⟩ := hx
      have hlt2 : (m : Int) < (n : Int) := by omega
      have HWH := Lib.hid (sqwhole_any k b bn s i f c x n F wr (fun W hb => HN.out W (bel_both HBL.out hb)) m hlt)
      go_wp2_with fail
      refine HWH.out.mono ?_
      rintro e w3 ⟨hres, hb3⟩
      have HB3 := Lib.hid (bel_both HBL.out hb3)
      have HX3 := Lib.hid (HX.out.below hb3)
      have HF3 := Lib.hid (HF.out.below hb3)
      clear hb3 h0 h1 h2 h3 h4 h5 h6 h7
      by_cases hmK : m < K
      · obtain ⟨z, hwz⟩ := HY.out m hmK
        have hez : zOf (F m) = z := zOf_of hwz
        have HP3 := Lib.hid (HF3.out.put hlt)
        have HB4 := Lib.hid (HF3.out.bel HB3.out m (.int .i64 (zOf (F m))))
        have HX4 := Lib.hid (HX3.out.set (p := ⟨w1.heap.size, m, none⟩) (by have := HGN.out; show w1.heap.size ≠ w.heap.size; omega) (.int .i64 (zOf (F m))))
        have hc3 := HF3.out.cell hlt
        have hz3 := HF3.out.frozen m
        rw [hez] at HP3 HB4 HX4
        rcases hres with ⟨z', e1, rfl⟩ | ⟨e1, _⟩
        · rw [hwz] at e1
          injection e1 with e1
          subst e1
          clear hwz hez
          go_wp2
          go_roundw
          case rel => exact ⟨m + 1, by omega, by go_num, HP3.out, HB4.out, HX4.out⟩
          case measure => simp [intOf]; omega
        · rw [hwz] at e1; cases e1
      · obtain rfl : m = K := by omega
        have hbad := HNO.out hlt
        rcases hres with ⟨z', e1, rfl⟩ | ⟨e1, mm, rfl⟩
        · rw [hbad] at e1; cases e1
        · clear e1 hbad
          go_wp2
          go_ret2
          exact .inr ⟨hlt, rfl, HB3.out⟩
    · obtain rfl : m = n := by omega
      obtain rfl : K = m := by omega
      clear hx
      go_wp2
      go_ret2
      exact .inl ⟨rfl, _, rfl, HF.out.own, HBL.out⟩
end Go.Proofs.YtdddmehchfnppaaGreatDoor
