/- Merged texts. The walk of fold.starts. Conditions: as each theorem says. The walk of fold.row. Conditions: the table of math/bits reads as its text lays it. -/
import Derived.Test.YtdddmehchfnppaaDoorMg31
import Derived.Test.YtdddmehchfnppaaDoorMg22
namespace Go.Proofs.YtdddmehchfnppaaDoor
open Go Go.RowKit Go.Proofs Fl

/-- what a function that puts rows together tells, by the rows' answers -/
def FgOut (H : Nat → Prop) (w : World) (r : Nat → Option Nat) (N : Nat) (e : Ending) (w' : World) : Prop :=
  ((∀ c, c < N → ∃ y, r c = some y) ∧ VecOk H w (fun u W => NumV u (leastF (getR r) N : Nat) N (getR r) W) e w') ∨
  ((∃ c, c < N ∧ r c = none) ∧ e = .returned (.tuple #[vecV 0 vnil 0 vnil vnil vnil vnil vnil, .int .i64 24]) ∧ Below w.heap.size w w')
def StOut (H : Nat → Prop) (w : World) (r : Option Nat) (N : Nat) (e : Ending) (w' : World) : Prop :=
  (∃ x, r = some x ∧ VecOk H w (fun u W => NumV u (leastF (fun _ => x) N : Nat) N (fun _ => x) W) e w') ∨
  (r = none ∧ e = .returned (.tuple #[vecV 0 vnil 0 vnil vnil vnil vnil vnil, .int .i64 24]) ∧ Below w.heap.size w w')

set_option maxRecDepth 100000 in
set_option maxHeartbeats 4000000 in
theorem starts_any (H : Nat → Prop) (q : Int) (hq : knownB q = true) (N : Nat) (hN : N ≤ 1000000) (w : World) (hH : ∀ b, H b → b < w.heap.size) :
    Calls Tryd.prog 28 #[.int .i64 q, .int .i64 (N : Int)] w (StOut H w (startF q) N) := by
  have HST := Lib.hid (fun W => start_any q hq W)
  unfold StartR at HST
  have HTF := Lib.hid (fun x (h : startF q = some x) => startF_tf h)
  have HH := Lib.hid hH
  have hmk := run_make_row' (P := Tryd.prog) 25 26 (.float .f64 0) 8 Tryd.underlying25 info_f64 rfl .i64 .i64 N (by omega) (by omega)
  clear hq hH
  generalize startF q = r at *
  cases r with
  | none =>
    go_enter Tryd.func28, Tryd.ntmps28
    go_wp2_with fail
    refine (HST.out _).mono ?_
    rintro e w1 ⟨rfl, hb1⟩
    have HK1 := Lib.hid (block_up hb1)
    have HB1 := Lib.hid (bel_both (bel1 w _) hb1)
    clear hb1
    obtain ⟨⟨h0, h1, h2, h3, h4, h5, h6, h7⟩, hz⟩ := boxed_of HK1.out
    go_wp2
    refine bodyPost_ret (v := .tuple #[vecV 0 vnil 0 vnil vnil vnil vnil vnil, .int .i64 24]) ?_ rfl (.inr ⟨rfl, rfl, below_set8 HB1.out (Nat.le_refl _) _ _ _ _ _ _ _ _⟩)
    exact ret_vec2 (fn := Tryd.f28) (p := 4) (u := 5) rfl _ _ w.heap.size (by rfl) (set8_block HK1.out _ _ _ _ _ _ _ _)
  | some x =>
    have HX := Lib.hid (HTF.out x rfl)
    clear HTF
    go_enter Tryd.func28, Tryd.ntmps28
    go_wp2_with fail
    refine (HST.out _).mono ?_
    rintro e w1 ⟨rfl, hb1⟩
    have HB1 : Hid (Below (w.heap.size + 1) (w.alloc (.cells zcells 35)) w1) := by
      have h := hb1
      rw [show (w.alloc (.cells zcells 35)).heap.size = w.heap.size + 1 by simp] at h
      exact h
    have HGN : Hid (w.heap.size + 1 ≤ w1.heap.size) := by have := hb1.size; simp at this; exact this
    clear hb1
    have HF0 := Lib.hid (Fill.made w1 (w.heap.size + 1) HGN.out 26 (fun _ => .float .f64 x) (.float .f64 0) N (by unfold maxLen; omega))
    have HBM := Lib.hid (HB1.out.alloc HGN.out (.cells (madeCells #[.float .f64 0] N) 26))
    go_wp2_with fail
    go_loopw [24] (fun j wr => ∃ m : Nat, m ≤ N ∧ j = .int .i64 m ∧ Fill wr (w.heap.size + 1) w1.heap.size 26 (fun _ => .float .f64 x) (.float .f64 0) N m ∧ Below (w.heap.size + 1) (w.alloc (.cells zcells 35)) wr) (fun j _ => N - (intOf j).toNat)
    case atStart => exact ⟨0, Nat.zero_le _, rfl, HF0.out, HBM.out⟩
    case round =>
      clear hmk HF0 HBM HB1
      obtain ⟨m, hm, rfl, hf, hbl⟩ := hrel
      have HF := Lib.hid hf
      have HBL := Lib.hid hbl
      clear hf hbl
      by_cases hlt : m < N
      · have hlt2 : (m : Int) < (N : Int) := by omega
        have HP3 := Lib.hid (HF.out.put hlt)
        have HB4 := Lib.hid (HF.out.bel HBL.out m (.float .f64 x))
        have hc3 := HF.out.cell hlt
        have hz3 := HF.out.frozen m
        have hst := fun md => store_float hc3 hz3 .f64 x md
        go_wp2
        go_roundw
        case rel => exact ⟨m + 1, by omega, by go_num, HP3.out, HB4.out⟩
        case measure => simp [intOf]; omega
      · obtain rfl : m = N := by omega
        have HBW : Hid (Below w.heap.size w wr) := (bel1 w _).trans (HBL.out.mono (Nat.le_succ _))
        have HKW : Hid (wr.heap[w.heap.size]? = some (.cells zcells 35)) := by
          show _ = _
          rw [HBL.out.block _ (Nat.lt_succ_self _)]
          exact heap_alloc_new w _
        have HNUMS := Lib.hid (numbers_any (fun j => H j ∨ j = w.heap.size) _ m (fun _ => x) wr (fun j e => by
          have h1 := lt_of_block HKW.out
          have h2 := HBW.out.size
          rcases e with e | e
          · have := HH.out j e; omega
          · omega) HF.out.own.reads hN (fun _ _ => HX.out))
        go_wp2_with fail
        refine HNUMS.out.mono ?_
        rintro e w5 ⟨k5, b5, bn5, s5, i5, f5, c5, x5, rfl, hk5, hb5⟩
        have HB5 := Lib.hid (bel_both HBW.out hb5)
        have HK5 := Lib.hid (show w5.heap[w.heap.size]? = some (.cells zcells 35) by rw [hb5.block _ (lt_of_block HKW.out)]; exact HKW.out)
        have HKE := Lib.hid hk5
        clear hb5 hk5
        have z5 : w.heap.size < w5.heap.size := lt_of_block HK5.out
        have HKF := Lib.hid ((HKE.out.set8 (.inr rfl) (.int .i64 k5) (.slice b5.1 b5.2.1 b5.2.2) (.int .i64 bn5) (.slice s5.1 s5.2.1 s5.2.2) (.slice i5.1 i5.2.1 i5.2.2) (.slice f5.1 f5.2.1 f5.2.2) (.slice c5.1 c5.2.1 c5.2.2) (.slice x5.1 x5.2.1 x5.2.2)).sub (H' := H) fun _ _ e => .inl e)
        have HBE := Lib.hid (below_set8 HB5.out (Nat.le_refl _) (.int .i64 k5) (.slice b5.1 b5.2.1 b5.2.2) (.int .i64 bn5) (.slice s5.1 s5.2.1 s5.2.2) (.slice i5.1 i5.2.1 i5.2.2) (.slice f5.1 f5.2.1 f5.2.2) (.slice c5.1 c5.2.1 c5.2.2) (.slice x5.1 x5.2.1 x5.2.2))
        have HRE := Lib.hid (set8_block HK5.out (.int .i64 k5) (.slice b5.1 b5.2.1 b5.2.2) (.int .i64 bn5) (.slice s5.1 s5.2.1 s5.2.2) (.slice i5.1 i5.2.1 i5.2.2) (.slice f5.1 f5.2.1 f5.2.2) (.slice c5.1 c5.2.1 c5.2.2) (.slice x5.1 x5.2.1 x5.2.2))
        obtain ⟨⟨h0, h1, h2, h3, h4, h5, h6, h7⟩, hz⟩ := boxed_of HK5.out
        go_wp2
        refine bodyPost_ret (v := .tuple #[vecW k5 b5 bn5 s5 i5 f5 c5 x5, .int .i64 0]) ?_ rfl (.inl ⟨x, rfl, k5, b5, bn5, s5, i5, f5, c5, x5, rfl, HKF.out.step (bel1 _ _), bel_both HBE.out (bel1 _ _)⟩)
        exact ret_vec2 (fn := Tryd.f28) (p := 4) (u := 5) rfl _ _ w.heap.size (by rfl) ((Below.heap_alloc _ _ _ (lt_of_block HRE.out)).trans HRE.out)
end Go.Proofs.YtdddmehchfnppaaDoor
namespace Go.Proofs.YtdddmehchfnppaaDoor
open Go Go.RowKit Go.Proofs Fl

def bZ (b : Bool) : Int := if b then 1 else 0
set_option maxHeartbeats 400000 in
theorem rowflag_any (b : Bool) (w : World) : Calls Tryd.prog 80 #[.bool b] w fun e w' => e = .returned (.tuple #[.int .i64 (bZ b), .bool true]) ∧ w = w' := by
  cases b
  all_goals
    go_enter Tryd.func80, Tryd.ntmps80
    go_wp2
    go_ret2
    exact ⟨rfl, rfl⟩

theorem not_in (v : Value) (n : Nat) (l : Nat → Bool) (w : World) (hn : n ≤ 1048576) (hb : BitsIn w v n l) :
    Calls Tryd.prog 84 #[v] w fun e w' => ∃ v', e = .returned v' ∧ BitsIn w' v' n (fun i => !l i) ∧ Below w.heap.size w w' := by
  obtain ⟨b, o, c, rfl, hc⟩ := hb
  refine (not_any b o c n l w hn hc).mono ?_
  rintro e w1 ⟨g, rfl, hr, hb⟩
  exact ⟨_, rfl, .of_row hr, hb⟩

/-- what a row of truths comes to; none: that doesn't go -/
def rowB (q : Int) (l : Nat → Bool) (n : Nat) : Option Int :=
  if q = 1 then some (cnt l n : Nat) else if q = 5 ∨ q = 22 then some (bZ (decide (cnt l n ≠ 0)))
  else if q = 6 ∨ q = 3 ∨ q = 21 then some (bZ (decide (cnt l n = n)))
  else if q = 16 then some (bZ (((cnt l n % 2 : Nat) : Int) == 1))
  else if q = 13 then some (bZ (((cnt (fun i => !l i) n % 2 : Nat) : Int) == 0))
  else if q = 2 then some (altN l n) else none
/-- what row tells -/
def RowB (r : Option Int) (w : World) (e : Ending) (w' : World) : Prop := e = .returned (.tuple #[.int .i64 (r.getD 0), .bool r.isSome]) ∧ Below w.heap.size w w'

set_option maxRecDepth 100000 in
set_option maxHeartbeats 2000000 in
theorem row_any (q : Int) (hq : knownB q = true) (v : Value) (n : Nat) (l : Nat → Bool) (w : World) (hn : n ≤ 1048576) (hb : BitsIn w v n l) (ht : TzTab w) :
    Calls Tryd.prog 55 #[.int .i64 q, v] w (RowB (rowB q l n) w) := by
  have HCN := Lib.hid (fun W (hw : Below w.heap.size w W) => count_any v n l W hn (hb.below hw))
  have HAL := Lib.hid (fun W (hw : Below w.heap.size w W) => lall_any v n l W hn (hb.below hw))
  have HAN := Lib.hid (fun W (hw : Below w.heap.size w W) => lany_any v n l W hn (hb.below hw) (ht.below hw))
  have HLS := Lib.hid (fun W (hw : Below w.heap.size w W) => less_any v n l W hn (hb.below hw) (ht.below hw))
  have HNT := Lib.hid (fun W (hw : Below w.heap.size w W) => not_in v n l W hn (hb.below hw))
  obtain ⟨b, o, c, rfl, _⟩ := hb
  have HFL := Lib.hid (fun b W => rowflag_any b W)
  have hcb : cnt l n ≤ 1048576 := by have := cnt_le l n; omega
  have hcb2 : cnt (fun i => !l i) n ≤ 1048576 := by have := cnt_le (fun i => !l i) n; omega
  have ha1 := and1 (cnt l n) (by omega)
  have ha2 := and1 (cnt (fun i => !l i) n) (by omega)
  have HNC := Lib.hid (fun W v (h : BitsIn W v n (fun i => !l i)) => count_any v n (fun i => !l i) W hn h)
  obtain ⟨r, HR⟩ : ∃ r, Hid (rowB q l n = r) := ⟨_, rfl⟩
  rw [HR.out]
  have HQ := Lib.hid hq
  clear hq ht
  revert HR
  unfold rowB
  generalize cnt l n = k1 at *
  generalize cnt (fun i => !l i) n = k2 at *
  generalize altN l n = k3 at *
  generalize decide (k1 ≠ 0) = d1 at *
  generalize decide (k1 = n) = d2 at *
  obtain ⟨m1, em1⟩ : ∃ m, m = k1 % 2 := ⟨_, rfl⟩
  obtain ⟨m2, em2⟩ : ∃ m, m = k2 % 2 := ⟨_, rfl⟩
  rw [← em1] at ha1 ⊢
  rw [← em2] at ha2 ⊢
  obtain ⟨d3, ed3⟩ : ∃ d, ((m1 : Int) == 1) = d := ⟨_, rfl⟩
  obtain ⟨d4, ed4⟩ : ∃ d, ((m2 : Int) == 0) = d := ⟨_, rfl⟩
  rw [ed3, ed4]
  clear em1 em2
  have HB0 := Lib.hid (bel1 w (.cells #[.slice (some ⟨b, o, none⟩) ((n + 63) / 64) c, .int .i64 (n : Int)] 30))
  refine int18 (P := fun q => Hid ((if q = 1 then some ((k1 : Nat) : Int) else if q = 5 ∨ q = 22 then some (bZ d1) else if q = 6 ∨ q = 3 ∨ q = 21 then some (bZ d2) else if q = 16 then some (bZ d3) else if q = 13 then some (bZ d4) else if q = 2 then some k3 else none) = r) → Calls Tryd.prog 55 #[.int .i64 q, .agg #[.slice (some ⟨b, o, none⟩) ((n + 63) / 64) c, .int .i64 (n : Int)]] w (RowB r w)) q HQ.out ?_ ?_ ?_ ?_ ?_ ?_ ?_ ?_ ?_ ?_ ?_ ?_ ?_ ?_ ?_ ?_ ?_ ?_
  · intro HR
    obtain rfl := HR.out
    go_enter Tryd.func55, Tryd.ntmps55
    go_wp2_with fail
    refine (HCN.out _ HB0.out).mono ?_
    rintro e w1 ⟨rfl, hb1⟩
    have HB1 := Lib.hid (bel_both HB0.out hb1)
    clear hb1
    go_wp2
    go_ret2
    exact ⟨rfl, HB1.out⟩
  · intro HR
    obtain rfl := HR.out
    go_enter Tryd.func55, Tryd.ntmps55
    go_wp2_with fail
    refine (HLS.out _ HB0.out).mono ?_
    rintro e w1 ⟨rfl, hb1⟩
    have HB1 := Lib.hid (bel_both HB0.out hb1)
    clear hb1
    go_wp2
    go_ret2
    exact ⟨rfl, HB1.out⟩
  · intro HR
    obtain rfl := HR.out
    go_enter Tryd.func55, Tryd.ntmps55
    go_wp2_with fail
    refine (HAL.out _ HB0.out).mono ?_
    rintro e w1 ⟨rfl, hb1⟩
    have HB1 := Lib.hid (bel_both HB0.out hb1)
    clear hb1
    go_wp2_with fail
    refine (HFL.out _ _).mono ?_
    rintro e w3 ⟨rfl, rfl⟩
    go_wp2
    go_ret2
    exact ⟨rfl, HB1.out⟩
  · intro HR
    obtain rfl := HR.out
    go_enter Tryd.func55, Tryd.ntmps55
    go_wp2
    go_ret2
    exact ⟨rfl, HB0.out⟩
  · intro HR
    obtain rfl := HR.out
    go_enter Tryd.func55, Tryd.ntmps55
    go_wp2_with fail
    refine (HAN.out _ HB0.out).mono ?_
    rintro e w1 ⟨rfl, hb1⟩
    have HB1 := Lib.hid (bel_both HB0.out hb1)
    clear hb1
    go_wp2_with fail
    refine (HFL.out _ _).mono ?_
    rintro e w3 ⟨rfl, rfl⟩
    go_wp2
    go_ret2
    exact ⟨rfl, HB1.out⟩
  · intro HR
    obtain rfl := HR.out
    go_enter Tryd.func55, Tryd.ntmps55
    go_wp2_with fail
    refine (HAL.out _ HB0.out).mono ?_
    rintro e w1 ⟨rfl, hb1⟩
    have HB1 := Lib.hid (bel_both HB0.out hb1)
    clear hb1
    go_wp2_with fail
    refine (HFL.out _ _).mono ?_
    rintro e w3 ⟨rfl, rfl⟩
    go_wp2
    go_ret2
    exact ⟨rfl, HB1.out⟩
  · intro HR
    obtain rfl := HR.out
    go_enter Tryd.func55, Tryd.ntmps55
    go_wp2
    go_ret2
    exact ⟨rfl, HB0.out⟩
  · intro HR
    obtain rfl := HR.out
    go_enter Tryd.func55, Tryd.ntmps55
    go_wp2
    go_ret2
    exact ⟨rfl, HB0.out⟩
  · intro HR
    obtain rfl := HR.out
    go_enter Tryd.func55, Tryd.ntmps55
    go_wp2
    go_ret2
    exact ⟨rfl, HB0.out⟩
  · intro HR
    obtain rfl := HR.out
    go_enter Tryd.func55, Tryd.ntmps55
    go_wp2
    go_ret2
    exact ⟨rfl, HB0.out⟩
  · intro HR
    obtain rfl := HR.out
    go_enter Tryd.func55, Tryd.ntmps55
    go_wp2_with fail
    refine (HNT.out _ HB0.out).mono ?_
    rintro e w1 ⟨v1, rfl, hbn, hb1⟩
    have HBN := Lib.hid hbn
    have HBX := Lib.hid (bel_both HB0.out hb1)
    clear hb1 hbn
    go_wp2_with fail
    refine (HNC.out _ _ HBN.out).mono ?_
    rintro e w2 ⟨rfl, hb1⟩
    have HB1 := Lib.hid (bel_both HBX.out hb1)
    clear hb1
    go_wp2_with fail
    refine (HFL.out _ _).mono ?_
    rintro e w3 ⟨rfl, rfl⟩
    go_wp2
    go_ret2
    exact ⟨rfl, HB1.out⟩
  · intro HR
    obtain rfl := HR.out
    go_enter Tryd.func55, Tryd.ntmps55
    go_wp2
    go_ret2
    exact ⟨rfl, HB0.out⟩
  · intro HR
    obtain rfl := HR.out
    go_enter Tryd.func55, Tryd.ntmps55
    go_wp2
    go_ret2
    exact ⟨rfl, HB0.out⟩
  · intro HR
    obtain rfl := HR.out
    go_enter Tryd.func55, Tryd.ntmps55
    go_wp2_with fail
    refine (HCN.out _ HB0.out).mono ?_
    rintro e w1 ⟨rfl, hb1⟩
    have HB1 := Lib.hid (bel_both HB0.out hb1)
    clear hb1
    go_wp2_with fail
    refine (HFL.out _ _).mono ?_
    rintro e w3 ⟨rfl, rfl⟩
    go_wp2
    go_ret2
    exact ⟨rfl, HB1.out⟩
  · intro HR
    obtain rfl := HR.out
    go_enter Tryd.func55, Tryd.ntmps55
    go_wp2_with fail
    refine (HAL.out _ HB0.out).mono ?_
    rintro e w1 ⟨rfl, hb1⟩
    have HB1 := Lib.hid (bel_both HB0.out hb1)
    clear hb1
    go_wp2_with fail
    refine (HFL.out _ _).mono ?_
    rintro e w3 ⟨rfl, rfl⟩
    go_wp2
    go_ret2
    exact ⟨rfl, HB1.out⟩
  · intro HR
    obtain rfl := HR.out
    go_enter Tryd.func55, Tryd.ntmps55
    go_wp2_with fail
    refine (HAN.out _ HB0.out).mono ?_
    rintro e w1 ⟨rfl, hb1⟩
    have HB1 := Lib.hid (bel_both HB0.out hb1)
    clear hb1
    go_wp2_with fail
    refine (HFL.out _ _).mono ?_
    rintro e w3 ⟨rfl, rfl⟩
    go_wp2
    go_ret2
    exact ⟨rfl, HB1.out⟩
  · intro HR
    obtain rfl := HR.out
    go_enter Tryd.func55, Tryd.ntmps55
    go_wp2
    go_ret2
    exact ⟨rfl, HB0.out⟩
  · intro HR
    obtain rfl := HR.out
    go_enter Tryd.func55, Tryd.ntmps55
    go_wp2
    go_ret2
    exact ⟨rfl, HB0.out⟩
end Go.Proofs.YtdddmehchfnppaaDoor
