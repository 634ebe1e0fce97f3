/- Merged texts. The walks of fold.Start and of the reference's Start at every function. Conditions: as each theorem says. The walks of the reference's Line and Row of layer 13. Conditions: as each theorem says. The walk of the reference's Fold of layer 13. Conditions: as each theorem says. The walk of fold.starts. Conditions: as each theorem says. The walk of fold.row. Conditions: the table of math/bits reads as its text lays it. -/
import Derived.Test.YtdddmehchfnppaaGreatDoorMg16
import Derived.Test.YtdddmehchfnppaaGreatDoorMg12
namespace Go.Proofs.YtdddmehchfnppaaGreatDoor
open Go Go.RowKit Go.Proofs Fl

/-- what no elements are put together to -/
def startF (f : Int) : Option Nat :=
  if f = 1 ∨ f = 2 ∨ f = 7 ∨ f = 11 ∨ f = 15 ∨ f = 16 ∨ f = 22 then some 0
  else if f = 3 ∨ f = 4 ∨ f = 8 ∨ f = 12 ∨ f = 13 ∨ f = 14 ∨ f = 21 then some one
  else if f = 5 then some 18442240474082181119 else if f = 6 then some 9218868437227405311 else none
theorem startF_tf {f : Int} {x : Nat} (h : startF f = some x) : TF x := by
  unfold startF at h
  split at h
  · injection h with h; rw [← h]; exact tf_zero
  split at h
  · injection h with h; rw [← h]; exact tf_one
  split at h
  · injection h with h; rw [← h, ← W_ntop]; exact ⟨true, Top, rep_top, rfl, fun e => absurd e (Nat.ne_of_gt Top_pos)⟩
  split at h
  · injection h with h; rw [← h, ← W_top]; exact ⟨false, Top, rep_top, rfl, fun e => absurd e (Nat.ne_of_gt Top_pos)⟩
  · cases h
def StartR (r : Option Nat) (w : World) (e : Ending) (w' : World) : Prop := e = .returned (.tuple #[.float .f64 (r.getD 0), .bool r.isSome]) ∧ Below w.heap.size w w'

theorem int18 {P : Int → Prop} (f : Int) (hk : knownB f = true) (h1 : P 1) (h2 : P 2) (h3 : P 3) (h4 : P 4) (h5 : P 5) (h6 : P 6) (h7 : P 7) (h8 : P 8) (h11 : P 11) (h12 : P 12) (h13 : P 13) (h14 : P 14) (h15 : P 15) (h16 : P 16) (h21 : P 21) (h22 : P 22) (h23 : P 23) (h24 : P 24) : P f := by
  unfold knownB at hk
  rw [decide_eq_true_eq] at hk
  have : f = 1 ∨ f = 2 ∨ f = 3 ∨ f = 4 ∨ f = 5 ∨ f = 6 ∨ f = 7 ∨ f = 8 ∨ f = 11 ∨ f = 12 ∨ f = 13 ∨ f = 14 ∨ f = 15 ∨ f = 16 ∨ f = 21 ∨ f = 22 ∨ f = 23 ∨ f = 24 := by omega
  rcases this with rfl | rfl | rfl | rfl | rfl | rfl | rfl | rfl | rfl | rfl | rfl | rfl | rfl | rfl | rfl | rfl | rfl | rfl <;> assumption

set_option maxRecDepth 100000 in
set_option maxHeartbeats 4000000 in
theorem start_any (f : Int) (hk : knownB f = true) (w : World) : Calls Tryz.prog 15 #[.int .i64 f] w (StartR (startF f) w) := by
  refine int18 (P := fun f => Calls Tryz.prog 15 #[.int .i64 f] w (StartR (startF f) w)) f hk ?_ ?_ ?_ ?_ ?_ ?_ ?_ ?_ ?_ ?_ ?_ ?_ ?_ ?_ ?_ ?_ ?_ ?_
  all_goals
    clear hk
    go_enter Tryz.func15, Tryz.ntmps15
    go_wp2
    go_ret2
    exact ⟨rfl, Below.refl _ _⟩

set_option maxRecDepth 100000 in
set_option maxHeartbeats 8000000 in
theorem rstart_any (f : Int) (hk : knownB f = true) (w : World) : Calls Tryz.prog 16 #[.int .i64 f] w (StartR (startF f) w) := by
  refine int18 (P := fun f => Calls Tryz.prog 16 #[.int .i64 f] w (StartR (startF f) w)) f hk ?_ ?_ ?_ ?_ ?_ ?_ ?_ ?_ ?_ ?_ ?_ ?_ ?_ ?_ ?_ ?_ ?_ ?_
  all_goals
    clear hk
    go_enter Tryz.func16, Tryz.ntmps16
    go_wp2_with fail
    refine wp_loop_rounds 8 ?_
    repeat (rw [rounds_succ]; go_wp2)
    go_ret2
    exact ⟨rfl, bel2 _ _ _⟩
end Go.Proofs.YtdddmehchfnppaaGreatDoor
namespace Go.Proofs.YtdddmehchfnppaaGreatDoor
open Go Go.RowKit Go.Proofs Fl

theorem idx_eq (o n i inner k : Nat) : (o * n + i) * inner + k = o * n * inner + k + i * inner := by
  rw [Nat.add_mul]; omega
theorem range_succ_map {α : Type} (f : Nat → α) (k : Nat) : (List.range k).map f ++ [f k] = (List.range (k + 1)).map f := by
  rw [List.range_succ, List.map_append]; rfl

set_option maxRecDepth 100000 in
set_option maxHeartbeats 2000000 in
theorem line13_any (l : Value) (T : Nat) (outer n inner o k : Nat) (F : Nat → Nat) (w : World) (hT : T = outer * n * inner) (ho : o < outer) (hk : k < inner) (hb1 : outer ≤ 1000) (hb2 : n ≤ 1000) (hb3 : inner ≤ 1000) (hbT : T ≤ 1000000)
    (hr : Reads1 w l ((List.range T).map fun j => .float .f64 (F j))) :
    Calls Tryz.prog 37 #[l, .int .i64 (outer : Int), .int .i64 (n : Int), .int .i64 (inner : Int), .int .i64 (o : Int), .int .i64 (k : Int)] w fun e w' => ∃ v, e = .returned v ∧ Own1 w' w.heap.size 47 v ((List.range n).map fun i => .float .f64 (lineF F n inner o k i)) ∧ Below w.heap.size w w' := by
  obtain ⟨a, c, rfl, hcell⟩ := reads_at hr
  have HC := Lib.hid hcell
  have HT := Lib.hid hT
  have HO0 := Lib.hid (Own1.nil w w.heap.size 47)
  clear hr hcell hT
  go_enter Tryz.func37, Tryz.ntmps37
  go_wp2_with fail
  go_loopw [13, 14] (fun v ii wr => ∃ i : Nat, i ≤ n ∧ ii = .int .i64 i ∧ Own1 wr w.heap.size 47 v ((List.range i).map fun i => .float .f64 (lineF F n inner o k i)) ∧ Below w.heap.size w wr) (fun _ ii _ => n - (intOf ii).toNat)
  case atStart => exact ⟨0, Nat.zero_le _, rfl, HO0.out, Below.refl _ _⟩
  case round =>
    obtain ⟨i, hi, rfl, hown, hbl⟩ := hrel
    have HOWN := Lib.hid hown
    have HBL := Lib.hid hbl
    clear hown hbl
    by_cases hlt : i < n
    · obtain ⟨P1, eP1⟩ : ∃ P1, P1 = o * n := ⟨_, rfl⟩
      obtain ⟨P2, eP2⟩ : ∃ P2, P2 = P1 + i := ⟨_, rfl⟩
      obtain ⟨P3, eP3⟩ : ∃ P3, P3 = P2 * inner := ⟨_, rfl⟩
      obtain ⟨I, eI⟩ : ∃ I, I = P3 + k := ⟨_, rfl⟩
      have eI' : I = o * n * inner + k + i * inner := by rw [eI, eP3, eP2, eP1]; exact idx_eq o n i inner k
      have hI : I < T := by rw [eI', HT.out]; exact idx_lt ho hk hlt
      have f1 : (o : Int) * (n : Int) = (P1 : Int) := by rw [eP1]; push_cast; rfl
      have f2 : (P1 : Int) + (i : Int) = (P2 : Int) := by rw [eP2]; push_cast; rfl
      have f3 : (P2 : Int) * (inner : Int) = (P3 : Int) := by rw [eP3]; push_cast; rfl
      have f4 : (P3 : Int) + (k : Int) = (I : Int) := by rw [eI]; push_cast; rfl
      have hP1 : P1 ≤ 1000000 := by
        rw [eP1]; exact Nat.le_trans (Nat.mul_le_mul (Nat.le_of_lt (Nat.lt_of_lt_of_le ho hb1)) hb2) (by decide)
      have hP2 : P2 ≤ 1001000 := by omega
      have hP3 : P3 ≤ 1000000 := by omega
      obtain ⟨b, o0, rfl, hcI⟩ := HC.out I hI
      have hci : wr.cell? ⟨b, o0 + I, none⟩ = some (.float .f64 (F I)) := by rw [HBL.out.cell (cell_lt hcI)]; exact hcI
      have hBw : w.heap.size ≤ wr.heap.size := HBL.out.size
      have HOS : Hid (((List.range i).map fun i => Value.float .f64 (lineF F n inner o k i)) ++ [.float .f64 (F I)] = (List.range (i + 1)).map fun i => .float .f64 (lineF F n inner o k i)) := by
        have e : F I = lineF F n inner o k i := by unfold lineF; rw [eI']
        show _ = _
        rw [e]
        exact range_succ_map (fun i => Value.float .f64 (lineF F n inner o k i)) i
      have HFL : Hid ((((List.range i).map fun i => Value.float .f64 (lineF F n inner o k i)).length + 1) * 8 ≤ 140737488355328) := by
        rw [List.length_map, List.length_range]; show _ ≤ _; omega
      have HFL2 : Hid (((List.range i).map fun i => Value.float .f64 (lineF F n inner o k i)).length + 1 ≤ 140737488355328) := by
        rw [List.length_map, List.length_range]; show _ ≤ _; omega
      generalize F I = x at *
      clear eP1 eP2 eP3 eI eI' hcI
      go_wp2_with (at_builtin; refine wpList_push1 rfl (.tmp 20) (.tmp 33) 22 47 rfl Tryz.underlying22 (.float .f64 0) 8 info_f64 rfl w.heap.size _ ((List.range i).map fun i => Value.float .f64 (lineF F n inner o k i)) rfl HOWN.out (.float .f64 x) rfl rfl HFL.out HFL2.out hBw ?_; intro v' w1 hv' hb' _ hs'; rw [HOS.out] at hv'; have HV := Lib.hid hv'; have HB' := Lib.hid (hb' wr (Below.refl _ _)); clear hb' hv' hs')
      go_roundw
      case rel => exact ⟨i + 1, by omega, by go_num, HV.out, HBL.out.trans HB'.out⟩
      case measure => simp [intOf]; omega
    · obtain rfl : i = n := by omega
      go_wp2
      go_ret
      exact ⟨_, rfl, HOWN.out, HBL.out⟩

/-- what a row comes to, or that it doesn't go -/
def RowOut (r : Option Nat) (w : World) (e : Ending) (w' : World) : Prop := e = .returned (.tuple #[.float .f64 (r.getD 0), .int .i64 (if r.isSome then 0 else 24)]) ∧ Below w.heap.size w w'

set_option maxRecDepth 100000 in
set_option maxHeartbeats 2000000 in
theorem row13_zero (q : Int) (hq : knownB q = true) (a : Option Addr) (c : Nat) (w : World) :
    Calls Tryz.prog 38 #[.int .i64 q, .slice a 0 c] w (RowOut (startF q) w) := by
  have HS := Lib.hid (fun W => rstart_any q hq W)
  clear hq
  generalize startF q = r at *
  unfold StartR at HS
  cases r
  all_goals
    go_enter Tryz.func38, Tryz.ntmps38
    go_wp2_with fail
    refine (HS.out _).mono ?_
    rintro e w1 ⟨rfl, hb⟩
    have HB := Lib.hid hb
    clear hb
    go_wp2
    go_ret2
    exact ⟨rfl, HB.out⟩

set_option maxRecDepth 100000 in
set_option maxHeartbeats 2000000 in
theorem row13_any {pw : Nat → Nat → Nat × Int} (hp : PowIs pw) (q : Int) (hq : knownB q = true) (l : Value) (n : Nat) (x : Nat → Nat) (w : World) (hn : 1 ≤ n) (hb : n ≤ 1000) (hr : Reads1 w l ((List.range n).map fun i => .float .f64 (x i))) (hx : ∀ i, i < n → TF (x i)) :
    Calls Tryz.prog 38 #[.int .i64 q, l] w (RowOut (rowR (oneP pw q) x n) w) := by
  obtain ⟨a, c, rfl, hcell⟩ := reads_at hr
  obtain ⟨b, o0, rfl, _⟩ := hcell 0 (by omega)
  have HC : Hid (∀ i, i < n → w.cell? ⟨b, o0 + i, none⟩ = some (.float .f64 (x i))) := fun i hi => by
    obtain ⟨b', o', e, h⟩ := hcell i hi
    injection e with e
    injection e with e1 e2 _
    subst e1; subst e2
    exact h
  have HX := Lib.hid hx
  have HP := Lib.hid hp
  have HONE := Lib.hid (fun a b ha hb W => rone_any hp q hq a b ha hb W)
  have n0 : ((n : Int) == 0) = false := by simp; omega
  have hlast := HC.out (n - 1) (by omega)
  obtain ⟨I0, hI0⟩ : ∃ I0, I0 = n - 1 := ⟨_, rfl⟩
  rw [← hI0] at hlast
  have f0 : (n : Int) - 1 = (I0 : Int) := by omega
  have hI0n : I0 < n := by omega
  have HI0 := Lib.hid hI0
  have HX0 : Hid (stepsR (oneP pw q) x n 0 = some (x I0)) := by rw [hI0]; rfl
  clear hr hcell hp hq hx hI0
  go_enter Tryz.func38, Tryz.ntmps38
  go_wp2_with fail
  go_loop [8, 9] (fun xx ii => ∃ m y : Nat, m ≤ n - 1 ∧ stepsR (oneP pw q) x n (n - 1 - m) = some y ∧ xx = .float .f64 y ∧ ii = .int .i64 ((m : Int) - 1)) (fun _ ii => (intOf ii + 1).toNat)
  case atStart => exact ⟨n - 1, x I0, Nat.le_refl _, by rw [Nat.sub_self]; exact HX0.out, rfl, by congr 1; omega⟩
  case round =>
    clear hlast f0 HX0
    obtain ⟨m, y, hm, hsy, rfl, rfl⟩ := hrel
    have HSY := Lib.hid hsy
    clear hsy
    rcases m with _ | j
    · have e0 : ((0 : Nat) : Int) - 1 = -1 := rfl
      rw [e0]
      have HR : Hid (rowR (oneP pw q) x n = some y) := HSY.out
      clear e0
      go_wp2
      go_ret2
      exact ⟨by rw [HR.out]; rfl, Below.refl _ _⟩
    · have ej : ((j + 1 : Nat) : Int) - 1 = (j : Int) := by omega
      rw [ej]
      have hjn : j < n := by omega
      have hci := HC.out j hjn
      have HYT : Hid (TF y) := stepsR_tf HP.out hn HX.out (n - 1 - (j + 1)) (by omega) y HSY.out
      have HNX : Hid (stepsR (oneP pw q) x n (n - 1 - j) = if (oneP pw q (x j) y).2 = 0 then some (oneP pw q (x j) y).1 else none) := by
        have e1 : n - 1 - j = (n - 1 - (j + 1)) + 1 := by omega
        show _ = _
        rw [e1]
        show (stepsR _ _ _ _).bind _ = _
        rw [HSY.out]
        have e2 : n - 2 - (n - 1 - (j + 1)) = j := by omega
        show (if (oneP pw q (x (n - 2 - (n - 1 - (j + 1)))) y).2 = 0 then some (oneP pw q (x (n - 2 - (n - 1 - (j + 1)))) y).1 else none) = _
        rw [e2]
      have HONE2 := Lib.hid (fun W => HONE.out (x j) y (HX.out j hjn) HYT.out W)
      have HCS := oneP_cases HP.out q (HX.out j hjn) HYT.out
      have hjm : j ≤ n - 1 := by omega
      have hjn2 : n - 1 - j ≤ n - 1 := by omega
      generalize oneP pw q (x j) y = d at HONE2 HNX HCS
      generalize x j = z at *
      clear ej hm HSY
      rcases HCS with ⟨z2, hz2, rfl⟩ | rfl
      · have HNX2 : Hid (stepsR (oneP pw q) x n (n - 1 - j) = some z2) := HNX.out
        clear HNX hz2
        go_wp2_with fail
        refine (HONE2.out _).mono ?_
        rintro e w' ⟨rfl, rfl⟩
        go_wp2
        go_round
        case rel => exact ⟨j, z2, hjm, HNX2.out, rfl, rfl⟩
        case measure => simp [intOf]
      · have HR : Hid (rowR (oneP pw q) x n = none) := rowR_none hjn2 HNX.out
        clear HNX
        go_wp2_with fail
        refine (HONE2.out _).mono ?_
        rintro e w' ⟨rfl, rfl⟩
        go_wp2
        go_ret2
        exact ⟨by rw [HR.out]; rfl, Below.refl _ _⟩
end Go.Proofs.YtdddmehchfnppaaGreatDoor
namespace Go.Proofs.YtdddmehchfnppaaGreatDoor
open Go Go.RowKit Go.Proofs Fl

def getR (r : Nat → Option Nat) (c : Nat) : Nat := (r c).getD 0
theorem getR_succ {r : Nat → Option Nat} {c y : Nat} (h : r c = some y) : ((List.range c).map fun j => Value.float .f64 (getR r j)) ++ [.float .f64 y] = (List.range (c + 1)).map fun j => .float .f64 (getR r j) := by
  rw [List.range_succ, List.map_append]
  simp [getR, h]
/-- what the reference's Fold tells -/
def RfOut (N : Nat) (r : Nat → Option Nat) (w : World) (e : Ending) (w' : World) : Prop :=
  ((∀ c, c < N → ∃ y, r c = some y) ∧ (∃ v, e = .returned (.tuple #[v, .int .i64 0]) ∧ Own1 w' w.heap.size 47 v ((List.range N).map fun j => .float .f64 (getR r j))) ∧ Below w.heap.size w w') ∨
  ((∃ c, c < N ∧ r c = none) ∧ e = .returned (.tuple #[.slice none 0 0, .int .i64 24]) ∧ Below w.heap.size w w')

end Go.Proofs.YtdddmehchfnppaaGreatDoor
namespace Go.Proofs.YtdddmehchfnppaaGreatDoor
open Go Go.RowKit Go.Proofs Fl

/-- what a function that puts rows together tells, by the rows' answers -/
def FgOut (H : Nat → Prop) (w : World) (r : Nat → Option Nat) (N : Nat) (e : Ending) (w' : World) : Prop :=
  ((∀ c, c < N → ∃ y, r c = some y) ∧ VecOk H w (fun u W => NumV u (leastF (getR r) N : Nat) N (getR r) W) e w') ∨
  ((∃ c, c < N ∧ r c = none) ∧ e = .returned (.tuple #[vecV 0 vnil 0 vnil vnil vnil vnil vnil, .int .i64 24]) ∧ Below w.heap.size w w')
def StOut (H : Nat → Prop) (w : World) (r : Option Nat) (N : Nat) (e : Ending) (w' : World) : Prop :=
  (∃ x, r = some x ∧ VecOk H w (fun u W => NumV u (leastF (fun _ => x) N : Nat) N (fun _ => x) W) e w') ∨
  (r = none ∧ e = .returned (.tuple #[vecV 0 vnil 0 vnil vnil vnil vnil vnil, .int .i64 24]) ∧ Below w.heap.size w w')

set_option maxRecDepth 100000 in
set_option maxHeartbeats 4000000 in
theorem starts_any (H : Nat → Prop) (q : Int) (hq : knownB q = true) (N : Nat) (hN : N ≤ 1000000) (w : World) (hH : ∀ b, H b → b < w.heap.size) :
    Calls Tryz.prog 54 #[.int .i64 q, .int .i64 (N : Int)] w (StOut H w (startF q) N) := by
  have HST := Lib.hid (fun W => start_any q hq W)
  unfold StartR at HST
  have HTF := Lib.hid (fun x (h : startF q = some x) => startF_tf h)
  have HH := Lib.hid hH
  have hmk := run_make_row' (P := Tryz.prog) 22 47 (.float .f64 0) 8 Tryz.underlying22 info_f64 rfl .i64 .i64 N (by omega) (by omega)
  clear hq hH
  generalize startF q = r at *
  cases r with
  | none =>
    go_enter Tryz.func54, Tryz.ntmps54
    go_wp2_with fail
    refine (HST.out _).mono ?_
    rintro e w1 ⟨rfl, hb1⟩
    have HK1 := Lib.hid (block_up hb1)
    have HB1 := Lib.hid (bel_both (bel1 w _) hb1)
    clear hb1
    obtain ⟨⟨h0, h1, h2, h3, h4, h5, h6, h7⟩, hz⟩ := boxed_of HK1.out
    go_wp2
    refine bodyPost_ret (v := .tuple #[vecV 0 vnil 0 vnil vnil vnil vnil vnil, .int .i64 24]) ?_ rfl (.inr ⟨rfl, rfl, below_set8 HB1.out (Nat.le_refl _) _ _ _ _ _ _ _ _⟩)
    exact ret_vec2 (fn := Tryz.f54) (p := 4) (u := 5) rfl _ _ w.heap.size (by rfl) (set8_block HK1.out _ _ _ _ _ _ _ _)
  | some x =>
    have HX := Lib.hid (HTF.out x rfl)
    clear HTF
    go_enter Tryz.func54, Tryz.ntmps54
    go_wp2_with fail
    refine (HST.out _).mono ?_
    rintro e w1 ⟨rfl, hb1⟩
    have HB1 : Hid (Below (w.heap.size + 1) (w.alloc (.cells zcells 32)) w1) := by
      have h := hb1
      rw [show (w.alloc (.cells zcells 32)).heap.size = w.heap.size + 1 by simp] at h
      exact h
    have HGN : Hid (w.heap.size + 1 ≤ w1.heap.size) := by have := hb1.size; simp at this; exact this
    clear hb1
    have HF0 := Lib.hid (Fill.made w1 (w.heap.size + 1) HGN.out 47 (fun _ => .float .f64 x) (.float .f64 0) N (by unfold maxLen; omega))
    have HBM := Lib.hid (HB1.out.alloc HGN.out (.cells (madeCells #[.float .f64 0] N) 47))
    go_wp2_with fail
    go_loopw [24] (fun j wr => ∃ m : Nat, m ≤ N ∧ j = .int .i64 m ∧ Fill wr (w.heap.size + 1) w1.heap.size 47 (fun _ => .float .f64 x) (.float .f64 0) N m ∧ Below (w.heap.size + 1) (w.alloc (.cells zcells 32)) wr) (fun j _ => N - (intOf j).toNat)
    case atStart => exact ⟨0, Nat.zero_le _, rfl, HF0.out, HBM.out⟩
    case round =>
      clear hmk HF0 HBM HB1
      obtain ⟨m, hm, rfl, hf, hbl⟩ := hrel
      have HF := Lib.hid hf
      have HBL := Lib.hid hbl
      clear hf hbl
      by_cases hlt : m < N
      · have hlt2 : (m : Int) < (N : Int) := by omega
        have HP3 := Lib.hid (HF.out.put hlt)
        have HB4 := Lib.hid (HF.out.bel HBL.out m (.float .f64 x))
        have hc3 := HF.out.cell hlt
        have hz3 := HF.out.frozen m
        have hst := fun md => store_float hc3 hz3 .f64 x md
        go_wp2
        go_roundw
        case rel => exact ⟨m + 1, by omega, by go_num, HP3.out, HB4.out⟩
        case measure => simp [intOf]; omega
      · obtain rfl : m = N := by omega
        have HBW : Hid (Below w.heap.size w wr) := (bel1 w _).trans (HBL.out.mono (Nat.le_succ _))
        have HKW : Hid (wr.heap[w.heap.size]? = some (.cells zcells 32)) := by
          show _ = _
          rw [HBL.out.block _ (Nat.lt_succ_self _)]
          exact heap_alloc_new w _
        have HNUMS := Lib.hid (numbers_any (fun j => H j ∨ j = w.heap.size) _ m (fun _ => x) wr (fun j e => by
          have h1 := lt_of_block HKW.out
          have h2 := HBW.out.size
          rcases e with e | e
          · have := HH.out j e; omega
          · omega) HF.out.own.reads hN (fun _ _ => HX.out))
        go_wp2_with fail
        refine HNUMS.out.mono ?_
        rintro e w5 ⟨k5, b5, bn5, s5, i5, f5, c5, x5, rfl, hk5, hb5⟩
        have HB5 := Lib.hid (bel_both HBW.out hb5)
        have HK5 := Lib.hid (show w5.heap[w.heap.size]? = some (.cells zcells 32) by rw [hb5.block _ (lt_of_block HKW.out)]; exact HKW.out)
        have HKE := Lib.hid hk5
        clear hb5 hk5
        have z5 : w.heap.size < w5.heap.size := lt_of_block HK5.out
        have HKF := Lib.hid ((HKE.out.set8 (.inr rfl) (.int .i64 k5) (.slice b5.1 b5.2.1 b5.2.2) (.int .i64 bn5) (.slice s5.1 s5.2.1 s5.2.2) (.slice i5.1 i5.2.1 i5.2.2) (.slice f5.1 f5.2.1 f5.2.2) (.slice c5.1 c5.2.1 c5.2.2) (.slice x5.1 x5.2.1 x5.2.2)).sub (H' := H) fun _ _ e => .inl e)
        have HBE := Lib.hid (below_set8 HB5.out (Nat.le_refl _) (.int .i64 k5) (.slice b5.1 b5.2.1 b5.2.2) (.int .i64 bn5) (.slice s5.1 s5.2.1 s5.2.2) (.slice i5.1 i5.2.1 i5.2.2) (.slice f5.1 f5.2.1 f5.2.2) (.slice c5.1 c5.2.1 c5.2.2) (.slice x5.1 x5.2.1 x5.2.2))
        have HRE := Lib.hid (set8_block HK5.out (.int .i64 k5) (.slice b5.1 b5.2.1 b5.2.2) (.int .i64 bn5) (.slice s5.1 s5.2.1 s5.2.2) (.slice i5.1 i5.2.1 i5.2.2) (.slice f5.1 f5.2.1 f5.2.2) (.slice c5.1 c5.2.1 c5.2.2) (.slice x5.1 x5.2.1 x5.2.2))
        obtain ⟨⟨h0, h1, h2, h3, h4, h5, h6, h7⟩, hz⟩ := boxed_of HK5.out
        go_wp2
        refine bodyPost_ret (v := .tuple #[vecW k5 b5 bn5 s5 i5 f5 c5 x5, .int .i64 0]) ?_ rfl (.inl ⟨x, rfl, k5, b5, bn5, s5, i5, f5, c5, x5, rfl, HKF.out.step (bel1 _ _), bel_both HBE.out (bel1 _ _)⟩)
        exact ret_vec2 (fn := Tryz.f54) (p := 4) (u := 5) rfl _ _ w.heap.size (by rfl) ((Below.heap_alloc _ _ _ (lt_of_block HRE.out)).trans HRE.out)
end Go.Proofs.YtdddmehchfnppaaGreatDoor
namespace Go.Proofs.YtdddmehchfnppaaGreatDoor
open Go Go.RowKit Go.Proofs Fl

def bZ (b : Bool) : Int := if b then 1 else 0
set_option maxHeartbeats 400000 in
theorem rowflag_any (b : Bool) (w : World) : Calls Tryz.prog 124 #[.bool b] w fun e w' => e = .returned (.tuple #[.int .i64 (bZ b), .bool true]) ∧ w = w' := by
  cases b
  all_goals
    go_enter Tryz.func124, Tryz.ntmps124
    go_wp2
    go_ret2
    exact ⟨rfl, rfl⟩

theorem not_in (v : Value) (n : Nat) (l : Nat → Bool) (w : World) (hn : n ≤ 1048576) (hb : BitsIn w v n l) :
    Calls Tryz.prog 109 #[v] w fun e w' => ∃ v', e = .returned v' ∧ BitsIn w' v' n (fun i => !l i) ∧ Below w.heap.size w w' := by
  obtain ⟨b, o, c, rfl, hc⟩ := hb
  refine (not_any b o c n l w hn hc).mono ?_
  rintro e w1 ⟨g, rfl, hr, hb⟩
  exact ⟨_, rfl, .of_row hr, hb⟩

/-- what a row of truths comes to; none: that doesn't go -/
def rowB (q : Int) (l : Nat → Bool) (n : Nat) : Option Int :=
  if q = 1 then some (cnt l n : Nat) else if q = 5 ∨ q = 22 then some (bZ (decide (cnt l n ≠ 0)))
  else if q = 6 ∨ q = 3 ∨ q = 21 then some (bZ (decide (cnt l n = n)))
  else if q = 16 then some (bZ (((cnt l n % 2 : Nat) : Int) == 1))
  else if q = 13 then some (bZ (((cnt (fun i => !l i) n % 2 : Nat) : Int) == 0))
  else if q = 2 then some (altN l n) else none
/-- what row tells -/
def RowB (r : Option Int) (w : World) (e : Ending) (w' : World) : Prop := e = .returned (.tuple #[.int .i64 (r.getD 0), .bool r.isSome]) ∧ Below w.heap.size w w'

set_option maxRecDepth 100000 in
set_option maxHeartbeats 2000000 in
theorem row_any (q : Int) (hq : knownB q = true) (v : Value) (n : Nat) (l : Nat → Bool) (w : World) (hn : n ≤ 1048576) (hb : BitsIn w v n l) (ht : TzTab w) :
    Calls Tryz.prog 103 #[.int .i64 q, v] w (RowB (rowB q l n) w) := by
  have HCN := Lib.hid (fun W (hw : Below w.heap.size w W) => count_any v n l W hn (hb.below hw))
  have HAL := Lib.hid (fun W (hw : Below w.heap.size w W) => lall_any v n l W hn (hb.below hw))
  have HAN := Lib.hid (fun W (hw : Below w.heap.size w W) => lany_any v n l W hn (hb.below hw) (ht.below hw))
  have HLS := Lib.hid (fun W (hw : Below w.heap.size w W) => less_any v n l W hn (hb.below hw) (ht.below hw))
  have HNT := Lib.hid (fun W (hw : Below w.heap.size w W) => not_in v n l W hn (hb.below hw))
  obtain ⟨b, o, c, rfl, _⟩ := hb
  have HFL := Lib.hid (fun b W => rowflag_any b W)
  have hcb : cnt l n ≤ 1048576 := by have := cnt_le l n; omega
  have hcb2 : cnt (fun i => !l i) n ≤ 1048576 := by have := cnt_le (fun i => !l i) n; omega
  have ha1 := and1 (cnt l n) (by omega)
  have ha2 := and1 (cnt (fun i => !l i) n) (by omega)
  have HNC := Lib.hid (fun W v (h : BitsIn W v n (fun i => !l i)) => count_any v n (fun i => !l i) W hn h)
  obtain ⟨r, HR⟩ : ∃ r, Hid (rowB q l n = r) := ⟨_, rfl⟩
  rw [HR.out]
  have HQ := Lib.hid hq
  clear hq ht
  revert HR
  unfold rowB
  generalize cnt l n = k1 at *
  generalize cnt (fun i => !l i) n = k2 at *
  generalize altN l n = k3 at *
  generalize decide (k1 ≠ 0) = d1 at *
  generalize decide (k1 = n) = d2 at *
  obtain ⟨m1, em1⟩ : ∃ m, m = k1 % 2 := ⟨_, rfl⟩
  obtain ⟨m2, em2⟩ : ∃ m, m = k2 % 2 := ⟨_, rfl⟩
  rw [← em1] at ha1 ⊢
  rw [← em2] at ha2 ⊢
  obtain ⟨d3, ed3⟩ : ∃ d, ((m1 : Int) == 1) = d := ⟨_, rfl⟩
  obtain ⟨d4, ed4⟩ : ∃ d, ((m2 : Int) == 0) = d := ⟨_, rfl⟩
  rw [ed3, ed4]
  clear em1 em2
  have HB0 := Lib.hid (bel1 w (.cells #[.slice (some ⟨b, o, none⟩) ((n + 63) / 64) c, .int .i64 (n : Int)] 26))
  refine int18 (P := fun q => Hid ((if q = 1 then some ((k1 : Nat) : Int) else if q = 5 ∨ q = 22 then some (bZ d1) else if q = 6 ∨ q = 3 ∨ q = 21 then some (bZ d2) else if q = 16 then some (bZ d3) else if q = 13 then some (bZ d4) else if q = 2 then some k3 else none) = r) → Calls Tryz.prog 103 #[.int .i64 q, .agg #[.slice (some ⟨b, o, none⟩) ((n + 63) / 64) c, .int .i64 (n : Int)]] w (RowB r w)) q HQ.out ?_ ?_ ?_ ?_ ?_ ?_ ?_ ?_ ?_ ?_ ?_ ?_ ?_ ?_ ?_ ?_ ?_ ?_
  · intro HR
    obtain rfl := HR.out
    go_enter Tryz.func103, Tryz.ntmps103
    go_wp2_with fail
    refine (HCN.out _ HB0.out).mono ?_
    rintro e w1 ⟨rfl, hb1⟩
    have HB1 := Lib.hid (bel_both HB0.out hb1)
    clear hb1
    go_wp2
    go_ret2
    exact ⟨rfl, HB1.out⟩
  · intro HR
    obtain rfl := HR.out
    go_enter Tryz.func103, Tryz.ntmps103
    go_wp2_with fail
    refine (HLS.out _ HB0.out).mono ?_
    rintro e w1 ⟨rfl, hb1⟩
    have HB1 := Lib.hid (bel_both HB0.out hb1)
    clear hb1
    go_wp2
    go_ret2
    exact ⟨rfl, HB1.out⟩
  · intro HR
    obtain rfl := HR.out
    go_enter Tryz.func103, Tryz.ntmps103
    go_wp2_with fail
    refine (HAL.out _ HB0.out).mono ?_
    rintro e w1 ⟨rfl, hb1⟩
    have HB1 := Lib.hid (bel_both HB0.out hb1)
    clear hb1
    go_wp2_with fail
    refine (HFL.out _ _).mono ?_
    rintro e w3 ⟨rfl, rfl⟩
    go_wp2
    go_ret2
    exact ⟨rfl, HB1.out⟩
  · intro HR
    obtain rfl := HR.out
    go_enter Tryz.func103, Tryz.ntmps103
    go_wp2
    go_ret2
    exact ⟨rfl, HB0.out⟩
  · intro HR
    obtain rfl := HR.out
    go_enter Tryz.func103, Tryz.ntmps103
    go_wp2_with fail
    refine (HAN.out _ HB0.out).mono ?_
    rintro e w1 ⟨rfl, hb1⟩
    have HB1 := Lib.hid (bel_both HB0.out hb1)
    clear hb1
    go_wp2_with fail
    refine (HFL.out _ _).mono ?_
    rintro e w3 ⟨rfl, rfl⟩
    go_wp2
    go_ret2
    exact ⟨rfl, HB1.out⟩
  · intro HR
    obtain rfl := HR.out
    go_enter Tryz.func103, Tryz.ntmps103
    go_wp2_with fail
    refine (HAL.out _ HB0.out).mono ?_
    rintro e w1 ⟨rfl, hb1⟩
    have HB1 := Lib.hid (bel_both HB0.out hb1)
    clear hb1
    go_wp2_with fail
    refine (HFL.out _ _).mono ?_
    rintro e w3 ⟨rfl, rfl⟩
    go_wp2
    go_ret2
    exact ⟨rfl, HB1.out⟩
  · intro HR
    obtain rfl := HR.out
    go_enter Tryz.func103, Tryz.ntmps103
    go_wp2
    go_ret2
    exact ⟨rfl, HB0.out⟩
  · intro HR
    obtain rfl := HR.out
    go_enter Tryz.func103, Tryz.ntmps103
    go_wp2
    go_ret2
    exact ⟨rfl, HB0.out⟩
  · intro HR
    obtain rfl := HR.out
    go_enter Tryz.func103, Tryz.ntmps103
    go_wp2
    go_ret2
    exact ⟨rfl, HB0.out⟩
  · intro HR
    obtain rfl := HR.out
    go_enter Tryz.func103, Tryz.ntmps103
    go_wp2
    go_ret2
    exact ⟨rfl, HB0.out⟩
  · intro HR
    obtain rfl := HR.out
    go_enter Tryz.func103, Tryz.ntmps103
    go_wp2_with fail
    refine (HNT.out _ HB0.out).mono ?_
    rintro e w1 ⟨v1, rfl, hbn, hb1⟩
    have HBN := Lib.hid hbn
    have HBX := Lib.hid (bel_both HB0.out hb1)
    clear hb1 hbn
    go_wp2_with fail
    refine (HNC.out _ _ HBN.out).mono ?_
    rintro e w2 ⟨rfl, hb1⟩
    have HB1 := Lib.hid (bel_both HBX.out hb1)
    clear hb1
    go_wp2_with fail
    refine (HFL.out _ _).mono ?_
    rintro e w3 ⟨rfl, rfl⟩
    go_wp2
    go_ret2
    exact ⟨rfl, HB1.out⟩
  · intro HR
    obtain rfl := HR.out
    go_enter Tryz.func103, Tryz.ntmps103
    go_wp2
    go_ret2
    exact ⟨rfl, HB0.out⟩
  · intro HR
    obtain rfl := HR.out
    go_enter Tryz.func103, Tryz.ntmps103
    go_wp2
    go_ret2
    exact ⟨rfl, HB0.out⟩
  · intro HR
    obtain rfl := HR.out
    go_enter Tryz.func103, Tryz.ntmps103
    go_wp2_with fail
    refine (HCN.out _ HB0.out).mono ?_
    rintro e w1 ⟨rfl, hb1⟩
    have HB1 := Lib.hid (bel_both HB0.out hb1)
    clear hb1
    go_wp2_with fail
    refine (HFL.out _ _).mono ?_
    rintro e w3 ⟨rfl, rfl⟩
    go_wp2
    go_ret2
    exact ⟨rfl, HB1.out⟩
  · intro HR
    obtain rfl := HR.out
    go_enter Tryz.func103, Tryz.ntmps103
    go_wp2_with fail
    refine (HAL.out _ HB0.out).mono ?_
    rintro e w1 ⟨rfl, hb1⟩
    have HB1 := Lib.hid (bel_both HB0.out hb1)
    clear hb1
    go_wp2_with fail
    refine (HFL.out _ _).mono ?_
    rintro e w3 ⟨rfl, rfl⟩
    go_wp2
    go_ret2
    exact ⟨rfl, HB1.out⟩
  · intro HR
    obtain rfl := HR.out
    go_enter Tryz.func103, Tryz.ntmps103
    go_wp2_with fail
    refine (HAN.out _ HB0.out).mono ?_
    rintro e w1 ⟨rfl, hb1⟩
    have HB1 := Lib.hid (bel_both HB0.out hb1)
    clear hb1
    go_wp2_with fail
    refine (HFL.out _ _).mono ?_
    rintro e w3 ⟨rfl, rfl⟩
    go_wp2
    go_ret2
    exact ⟨rfl, HB1.out⟩
  · intro HR
    obtain rfl := HR.out
    go_enter Tryz.func103, Tryz.ntmps103
    go_wp2
    go_ret2
    exact ⟨rfl, HB0.out⟩
  · intro HR
    obtain rfl := HR.out
    go_enter Tryz.func103, Tryz.ntmps103
    go_wp2
    go_ret2
    exact ⟨rfl, HB0.out⟩
end Go.Proofs.YtdddmehchfnppaaGreatDoor
