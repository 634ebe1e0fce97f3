/- Merged texts. The walks of fold.Start and of the reference's Start at every function. Conditions: as each theorem says. The walks of the reference's Line and Row of layer 13. Conditions: as each theorem says. The walk of the reference's Fold of layer 13. Conditions: as each theorem says. -/
import Derived.Test.YtdddmehchfnppaaDoorMg30
namespace Go.Proofs.YtdddmehchfnppaaDoor
open Go Go.RowKit Go.Proofs Fl

/-- what no elements are put together to -/
def startF (f : Int) : Option Nat :=
  if f = 1 ∨ f = 2 ∨ f = 7 ∨ f = 11 ∨ f = 15 ∨ f = 16 ∨ f = 22 then some 0
  else if f = 3 ∨ f = 4 ∨ f = 8 ∨ f = 12 ∨ f = 13 ∨ f = 14 ∨ f = 21 then some one
  else if f = 5 then some 18442240474082181119 else if f = 6 then some 9218868437227405311 else none
theorem startF_tf {f : Int} {x : Nat} (h : startF f = some x) : TF x := by
  unfold startF at h
  split at h
  · injection h with h; rw [← h]; exact tf_zero
  split at h
  · injection h with h; rw [← h]; exact tf_one
  split at h
  · injection h with h; rw [← h, ← W_ntop]; exact ⟨true, Top, rep_top, rfl, fun e => absurd e (Nat.ne_of_gt Top_pos)⟩
  split at h
  · injection h with h; rw [← h, ← W_top]; exact ⟨false, Top, rep_top, rfl, fun e => absurd e (Nat.ne_of_gt Top_pos)⟩
  · cases h
def StartR (r : Option Nat) (w : World) (e : Ending) (w' : World) : Prop := e = .returned (.tuple #[.float .f64 (r.getD 0), .bool r.isSome]) ∧ Below w.heap.size w w'

theorem int18 {P : Int → Prop} (f : Int) (hk : knownB f = true) (h1 : P 1) (h2 : P 2) (h3 : P 3) (h4 : P 4) (h5 : P 5) (h6 : P 6) (h7 : P 7) (h8 : P 8) (h11 : P 11) (h12 : P 12) (h13 : P 13) (h14 : P 14) (h15 : P 15) (h16 : P 16) (h21 : P 21) (h22 : P 22) (h23 : P 23) (h24 : P 24) : P f := by
  unfold knownB at hk
  rw [decide_eq_true_eq] at hk
  have : f = 1 ∨ f = 2 ∨ f = 3 ∨ f = 4 ∨ f = 5 ∨ f = 6 ∨ f = 7 ∨ f = 8 ∨ f = 11 ∨ f = 12 ∨ f = 13 ∨ f = 14 ∨ f = 15 ∨ f = 16 ∨ f = 21 ∨ f = 22 ∨ f = 23 ∨ f = 24 := by omega
  rcases this with rfl | rfl | rfl | rfl | rfl | rfl | rfl | rfl | rfl | rfl | rfl | rfl | rfl | rfl | rfl | rfl | rfl | rfl <;> assumption

set_option maxRecDepth 100000 in
set_option maxHeartbeats 4000000 in
theorem start_any (f : Int) (hk : knownB f = true) (w : World) : Calls Tryd.prog 53 #[.int .i64 f] w (StartR (startF f) w) := by
  refine int18 (P := fun f => Calls Tryd.prog 53 #[.int .i64 f] w (StartR (startF f) w)) f hk ?_ ?_ ?_ ?_ ?_ ?_ ?_ ?_ ?_ ?_ ?_ ?_ ?_ ?_ ?_ ?_ ?_ ?_
  all_goals
    clear hk
    go_enter Tryd.func53, Tryd.ntmps53
    go_wp2
    go_ret2
    exact ⟨rfl, Below.refl _ _⟩

set_option maxRecDepth 100000 in
set_option maxHeartbeats 8000000 in
theorem rstart_any (f : Int) (hk : knownB f = true) (w : World) : Calls Tryd.prog 34 #[.int .i64 f] w (StartR (startF f) w) := by
  refine int18 (P := fun f => Calls Tryd.prog 34 #[.int .i64 f] w (StartR (startF f) w)) f hk ?_ ?_ ?_ ?_ ?_ ?_ ?_ ?_ ?_ ?_ ?_ ?_ ?_ ?_ ?_ ?_ ?_ ?_
  all_goals
    clear hk
    go_enter Tryd.func34, Tryd.ntmps34
    go_wp2_with fail
    refine wp_loop_rounds 8 ?_
    repeat (rw [rounds_succ]; go_wp2)
    go_ret2
    exact ⟨rfl, bel2 _ _ _⟩
end Go.Proofs.YtdddmehchfnppaaDoor
namespace Go.Proofs.YtdddmehchfnppaaDoor
open Go Go.RowKit Go.Proofs Fl

theorem idx_eq (o n i inner k : Nat) : (o * n + i) * inner + k = o * n * inner + k + i * inner := by
  rw [Nat.add_mul]; omega
theorem range_succ_map {α : Type} (f : Nat → α) (k : Nat) : (List.range k).map f ++ [f k] = (List.range (k + 1)).map f := by
  rw [List.range_succ, List.map_append]; rfl

set_option maxRecDepth 100000 in
set_option maxHeartbeats 2000000 in
theorem line13_any (l : Value) (T : Nat) (outer n inner o k : Nat) (F : Nat → Nat) (w : World) (hT : T = outer * n * inner) (ho : o < outer) (hk : k < inner) (hb1 : outer ≤ 1000) (hb2 : n ≤ 1000) (hb3 : inner ≤ 1000) (hbT : T ≤ 1000000)
    (hr : Reads1 w l ((List.range T).map fun j => .float .f64 (F j))) :
    Calls Tryd.prog 36 #[l, .int .i64 (outer : Int), .int .i64 (n : Int), .int .i64 (inner : Int), .int .i64 (o : Int), .int .i64 (k : Int)] w fun e w' => ∃ v, e = .returned v ∧ Own1 w' w.heap.size 26 v ((List.range n).map fun i => .float .f64 (lineF F n inner o k i)) ∧ Below w.heap.size w w' := by
  obtain ⟨a, c, rfl, hcell⟩ := reads_at hr
  have HC := Lib.hid hcell
  have HT := Lib.hid hT
  have HO0 := Lib.hid (Own1.nil w w.heap.size 26)
  clear hr hcell hT
  go_enter Tryd.func36, Tryd.ntmps36
  go_wp2_with fail
  go_loopw [13, 14] (fun v ii wr => ∃ i : Nat, i ≤ n ∧ ii = .int .i64 i ∧ Own1 wr w.heap.size 26 v ((List.range i).map fun i => .float .f64 (lineF F n inner o k i)) ∧ Below w.heap.size w wr) (fun _ ii _ => n - (intOf ii).toNat)
  case atStart => exact ⟨0, Nat.zero_le _, rfl, HO0.out, Below.refl _ _⟩
  case round =>
    obtain ⟨i, hi, rfl, hown, hbl⟩ := hrel
    have HOWN := Lib.hid hown
    have HBL := Lib.hid hbl
    clear hown hbl
    by_cases hlt : i < n
    · obtain ⟨P1, eP1⟩ : ∃ P1, P1 = o * n := ⟨_, rfl⟩
      obtain ⟨P2, eP2⟩ : ∃ P2, P2 = P1 + i := ⟨_, rfl⟩
      obtain ⟨P3, eP3⟩ : ∃ P3, P3 = P2 * inner := ⟨_, rfl⟩
      obtain ⟨I, eI⟩ : ∃ I, I = P3 + k := ⟨_, rfl⟩
      have eI' : I = o * n * inner + k + i * inner := by rw [eI, eP3, eP2, eP1]; exact idx_eq o n i inner k
      have hI : I < T := by rw [eI', HT.out]; exact idx_lt ho hk hlt
      have f1 : (o : Int) * (n : Int) = (P1 : Int) := by rw [eP1]; push_cast; rfl
      have f2 : (P1 : Int) + (i : Int) = (P2 : Int) := by rw [eP2]; push_cast; rfl
      have f3 : (P2 : Int) * (inner : Int) = (P3 : Int) := by rw [eP3]; push_cast; rfl
      have f4 : (P3 : Int) + (k : Int) = (I : Int) := by rw [eI]; push_cast; rfl
      have hP1 : P1 ≤ 1000000 := by
        rw [eP1]; exact Nat.le_trans (Nat.mul_le_mul (Nat.le_of_lt (Nat.lt_of_lt_of_le ho hb1)) hb2) (by decide)
      have hP2 : P2 ≤ 1001000 := by omega
      have hP3 : P3 ≤ 1000000 := by omega
      obtain ⟨b, o0, rfl, hcI⟩ := HC.out I hI
      have hci : wr.cell? ⟨b, o0 + I, none⟩ = some (.float .f64 (F I)) := by rw [HBL.out.cell (cell_lt hcI)]; exact hcI
      have hBw : w.heap.size ≤ wr.heap.size := HBL.out.size
      have HOS : Hid (((List.range i).map fun i => Value.float .f64 (lineF F n inner o k i)) ++ [.float .f64 (F I)] = (List.range (i + 1)).map fun i => .float .f64 (lineF F n inner o k i)) := by
        have e : F I = lineF F n inner o k i := by unfold lineF; rw [eI']
        show _ = _
        rw [e]
        exact range_succ_map (fun i => Value.float .f64 (lineF F n inner o k i)) i
      have HFL : Hid ((((List.range i).map fun i => Value.float .f64 (lineF F n inner o k i)).length + 1) * 8 ≤ 140737488355328) := by
        rw [List.length_map, List.length_range]; show _ ≤ _; omega
      have HFL2 : Hid (((List.range i).map fun i => Value.float .f64 (lineF F n inner o k i)).length + 1 ≤ 140737488355328) := by
        rw [List.length_map, List.length_range]; show _ ≤ _; omega
      generalize F I = x at *
      clear eP1 eP2 eP3 eI eI' hcI
      go_wp2_with (at_builtin; refine wpList_push1 rfl (.tmp 20) (.tmp 33) 25 26 rfl Tryd.underlying25 (.float .f64 0) 8 info_f64 rfl w.heap.size _ ((List.range i).map fun i => Value.float .f64 (lineF F n inner o k i)) rfl HOWN.out (.float .f64 x) rfl rfl HFL.out HFL2.out hBw ?_; intro v' w1 hv' hb' _ hs'; rw [HOS.out] at hv'; have HV := Lib.hid hv'; have HB' := Lib.hid (hb' wr (Below.refl _ _)); clear hb' hv' hs')
      go_roundw
      case rel => exact ⟨i + 1, by omega, by go_num, HV.out, HBL.out.trans HB'.out⟩
      case measure => simp [intOf]; omega
    · obtain rfl : i = n := by omega
      go_wp2
      go_ret
      exact ⟨_, rfl, HOWN.out, HBL.out⟩

/-- what a row comes to, or that it doesn't go -/
def RowOut (r : Option Nat) (w : World) (e : Ending) (w' : World) : Prop := e = .returned (.tuple #[.float .f64 (r.getD 0), .int .i64 (if r.isSome then 0 else 24)]) ∧ Below w.heap.size w w'

set_option maxRecDepth 100000 in
set_option maxHeartbeats 2000000 in
theorem row13_zero (q : Int) (hq : knownB q = true) (a : Option Addr) (c : Nat) (w : World) :
    Calls Tryd.prog 35 #[.int .i64 q, .slice a 0 c] w (RowOut (startF q) w) := by
  have HS := Lib.hid (fun W => rstart_any q hq W)
  clear hq
  generalize startF q = r at *
  unfold StartR at HS
  cases r
  all_goals
    go_enter Tryd.func35, Tryd.ntmps35
    go_wp2_with fail
    refine (HS.out _).mono ?_
    rintro e w1 ⟨rfl, hb⟩
    have HB := Lib.hid hb
    clear hb
    go_wp2
    go_ret2
    exact ⟨rfl, HB.out⟩

set_option maxRecDepth 100000 in
set_option maxHeartbeats 2000000 in
theorem row13_any {pw : Nat → Nat → Nat × Int} (hp : PowIs pw) (q : Int) (hq : knownB q = true) (l : Value) (n : Nat) (x : Nat → Nat) (w : World) (hn : 1 ≤ n) (hb : n ≤ 1000) (hr : Reads1 w l ((List.range n).map fun i => .float .f64 (x i))) (hx : ∀ i, i < n → TF (x i)) :
    Calls Tryd.prog 35 #[.int .i64 q, l] w (RowOut (rowR (oneP pw q) x n) w) := by
  obtain ⟨a, c, rfl, hcell⟩ := reads_at hr
  obtain ⟨b, o0, rfl, _⟩ := hcell 0 (by omega)
  have HC : Hid (∀ i, i < n → w.cell? ⟨b, o0 + i, none⟩ = some (.float .f64 (x i))) := fun i hi => by
    obtain ⟨b', o', e, h⟩ := hcell i hi
    injection e with e
    injection e with e1 e2 _
    subst e1; subst e2
    exact h
  have HX := Lib.hid hx
  have HP := Lib.hid hp
  have HONE := Lib.hid (fun a b ha hb W => rone_any hp q hq a b ha hb W)
  have n0 : ((n : Int) == 0) = false := by simp; omega
  have hlast := HC.out (n - 1) (by omega)
  obtain ⟨I0, hI0⟩ : ∃ I0, I0 = n - 1 := ⟨_, rfl⟩
  rw [← hI0] at hlast
  have f0 : (n : Int) - 1 = (I0 : Int) := by omega
  have hI0n : I0 < n := by omega
  have HI0 := Lib.hid hI0
  have HX0 : Hid (stepsR (oneP pw q) x n 0 = some (x I0)) := by rw [hI0]; rfl
  clear hr hcell hp hq hx hI0
  go_enter Tryd.func35, Tryd.ntmps35
  go_wp2_with fail
  go_loop [8, 9] (fun xx ii => ∃ m y : Nat, m ≤ n - 1 ∧ stepsR (oneP pw q) x n (n - 1 - m) = some y ∧ xx = .float .f64 y ∧ ii = .int .i64 ((m : Int) - 1)) (fun _ ii => (intOf ii + 1).toNat)
  case atStart => exact ⟨n - 1, x I0, Nat.le_refl _, by rw [Nat.sub_self]; exact HX0.out, rfl, by congr 1; omega⟩
  case round =>
    clear hlast f0 HX0
    obtain ⟨m, y, hm, hsy, rfl, rfl⟩ := hrel
    have HSY := Lib.hid hsy
    clear hsy
    rcases m with _ | j
    · have e0 : ((0 : Nat) : Int) - 1 = -1 := rfl
      rw [e0]
      have HR : Hid (rowR (oneP pw q) x n = some y) := HSY.out
      clear e0
      go_wp2
      go_ret2
      exact ⟨by rw [HR.out]; rfl, Below.refl _ _⟩
    · have ej : ((j + 1 : Nat) : Int) - 1 = (j : Int) := by omega
      rw [ej]
      have hjn : j < n := by omega
      have hci := HC.out j hjn
      have HYT : Hid (TF y) := stepsR_tf HP.out hn HX.out (n - 1 - (j + 1)) (by omega) y HSY.out
      have HNX : Hid (stepsR (oneP pw q) x n (n - 1 - j) = if (oneP pw q (x j) y).2 = 0 then some (oneP pw q (x j) y).1 else none) := by
        have e1 : n - 1 - j = (n - 1 - (j + 1)) + 1 := by omega
        show _ = _
        rw [e1]
        show (stepsR _ _ _ _).bind _ = _
        rw [HSY.out]
        have e2 : n - 2 - (n - 1 - (j + 1)) = j := by omega
        show (if (oneP pw q (x (n - 2 - (n - 1 - (j + 1)))) y).2 = 0 then some (oneP pw q (x (n - 2 - (n - 1 - (j + 1)))) y).1 else none) = _
        rw [e2]
      have HONE2 := Lib.hid (fun W => HONE.out (x j) y (HX.out j hjn) HYT.out W)
      have HCS := oneP_cases HP.out q (HX.out j hjn) HYT.out
      have hjm : j ≤ n - 1 := by omega
      have hjn2 : n - 1 - j ≤ n - 1 := by omega
      generalize oneP pw q (x j) y = d at HONE2 HNX HCS
      generalize x j = z at *
      clear ej hm HSY
      rcases HCS with ⟨z2, hz2, rfl⟩ | rfl
      · have HNX2 : Hid (stepsR (oneP pw q) x n (n - 1 - j) = some z2) := HNX.out
        clear HNX hz2
        go_wp2_with fail
        refine (HONE2.out _).mono ?_
        rintro e w' ⟨rfl, rfl⟩
        go_wp2
        go_round
        case rel => exact ⟨j, z2, hjm, HNX2.out, rfl, rfl⟩
        case measure => simp [intOf]
      · have HR : Hid (rowR (oneP pw q) x n = none) := rowR_none hjn2 HNX.out
        clear HNX
        go_wp2_with fail
        refine (HONE2.out _).mono ?_
        rintro e w' ⟨rfl, rfl⟩
        go_wp2
        go_ret2
        exact ⟨by rw [HR.out]; rfl, Below.refl _ _⟩
end Go.Proofs.YtdddmehchfnppaaDoor
namespace Go.Proofs.YtdddmehchfnppaaDoor
open Go Go.RowKit Go.Proofs Fl

def getR (r : Nat → Option Nat) (c : Nat) : Nat := (r c).getD 0
theorem getR_succ {r : Nat → Option Nat} {c y : Nat} (h : r c = some y) : ((List.range c).map fun j => Value.float .f64 (getR r j)) ++ [.float .f64 y] = (List.range (c + 1)).map fun j => .float .f64 (getR r j) := by
  rw [List.range_succ, List.map_append]
  simp [getR, h]
/-- what the reference's Fold tells -/
def RfOut (N : Nat) (r : Nat → Option Nat) (w : World) (e : Ending) (w' : World) : Prop :=
  ((∀ c, c < N → ∃ y, r c = some y) ∧ (∃ v, e = .returned (.tuple #[v, .int .i64 0]) ∧ Own1 w' w.heap.size 26 v ((List.range N).map fun j => .float .f64 (getR r j))) ∧ Below w.heap.size w w') ∨
  ((∃ c, c < N ∧ r c = none) ∧ e = .returned (.tuple #[.slice none 0 0, .int .i64 24]) ∧ Below w.heap.size w w')

set_option maxRecDepth 100000 in
set_option maxHeartbeats 4000000 in
theorem rfold_gen (q : Int) (hq : knownB q = true) (l : Value) (outer n inner : Nat) (r : Nat → Option Nat) (P : Nat → Nat → Value → World → Prop) (w : World) (hn : n = 0 → ∃ x, startF q = some x) (hb1 : outer ≤ 1000) (hb2 : n ≤ 1000) (hb3 : inner ≤ 1000) (hbN : outer * inner ≤ 1000000)
    (hline : ∀ o k W, o < outer → k < inner → Below w.heap.size w W → Calls Tryd.prog 36 #[l, .int .i64 (outer : Int), .int .i64 (n : Int), .int .i64 (inner : Int), .int .i64 (o : Int), .int .i64 (k : Int)] W fun e w' => ∃ v, e = .returned v ∧ P o k v w' ∧ Below W.heap.size W w')
    (hrow : ∀ o k v W, o < outer → k < inner → P o k v W → Calls Tryd.prog 35 #[.int .i64 q, v] W (RowOut (r (o * inner + k)) W)) :
    Calls Tryd.prog 11 #[.int .i64 q, l, .int .i64 (outer : Int), .int .i64 (n : Int), .int .i64 (inner : Int)] w (RfOut (outer * inner) r w) := by
  have HLINE := Lib.hid hline
  have HROW := Lib.hid hrow
  have HQ := Lib.hid hq
  have HST := Lib.hid (fun W => rstart_any q hq W)
  unfold StartR at HST
  have HKN : Hid (∀ W, Calls Tryd.prog 19 #[.int .i64 q] W fun e w' => e = .returned (.bool true) ∧ W = w') := fun W => by rw [← hq]; exact rknown_any q W
  obtain ⟨N, hN⟩ : ∃ N, N = outer * inner := ⟨_, rfl⟩
  have hNb : N ≤ 1000000 := by omega
  have HN := Lib.hid hN
  rw [← hN]
  have HO0 : Hid (Own1 w w.heap.size 26 (.slice none 0 0) ((List.range (0 * inner)).map fun j => .float .f64 (getR r j))) := by rw [Nat.zero_mul]; exact Own1.nil _ _ _
  have hcase : (((n : Int) == 0) = true ∧ ∃ x, startF q = some x) ∨ ((n : Int) == 0) = false := by
    rcases Nat.eq_zero_or_pos n with e | e
    · left; exact ⟨by subst e; rfl, hn e⟩
    · right; simp; omega
  have HB2 := Lib.hid hb2
  clear hline hrow hq hN hbN hn
  obtain ⟨sv, sb, hsv, hsb⟩ : ∃ sv sb, sv = (startF q).getD 0 ∧ sb = (startF q).isSome := ⟨_, _, rfl, rfl⟩
  rw [← hsv, ← hsb] at HST
  have hcase2 : (((n : Int) == 0) = true ∧ sb = true) ∨ ((n : Int) == 0) = false := by
    rcases hcase with ⟨h, x, e⟩ | h
    · exact .inl ⟨h, by rw [hsb, e]; rfl⟩
    · exact .inr h
  clear hcase hsv hsb
  rcases hcase2 with ⟨n0, rfl⟩ | n0
  all_goals
    go_enter Tryd.func11, Tryd.ntmps11
    go_wp2_with fail
    refine (HKN.out _).mono ?_
    rintro e w1 ⟨rfl, rfl⟩
    go_wp2_with fail
    refine (HST.out _).mono ?_
    rintro e w1 ⟨rfl, hb⟩
    have HB := Lib.hid hb
    clear hb
    go_wp2_with fail
    go_loopw [14, 15] (fun v oo wr => ∃ o : Nat, o ≤ outer ∧ oo = .int .i64 o ∧ Own1 wr w.heap.size 26 v ((List.range (o * inner)).map fun j => .float .f64 (getR r j)) ∧ Below w.heap.size w wr ∧ ∀ cc, cc < o * inner → ∃ y, r cc = some y) (fun _ oo _ => outer - (intOf oo).toNat)
    case atStart => exact ⟨0, Nat.zero_le _, rfl, HO0.out.below HB.out, HB.out, fun cc h => by rw [Nat.zero_mul] at h; exact absurd h (Nat.not_lt_zero _)⟩
    case round =>
      clear HO0 HB n0
      obtain ⟨o, ho, rfl, hown, hbl, hall⟩ := hrel
      have HOWN := Lib.hid hown
      have HBL := Lib.hid hbl
      have HALL := Lib.hid hall
      clear hown hbl hall
      by_cases hlt : o < outer
      · have HOWN' := Lib.hid (show Own1 wr w.heap.size 26 _ ((List.range (o * inner + 0)).map fun j => .float .f64 (getR r j)) from HOWN.out)
        have HALL' := Lib.hid (show ∀ cc, cc < o * inner + 0 → ∃ y, r cc = some y from HALL.out)
        go_wp2_with fail
        go_loopw [14, 16] (fun v kx wr => ∃ k : Nat, k ≤ inner ∧ kx = .int .i64 k ∧ Own1 wr w.heap.size 26 v ((List.range (o * inner + k)).map fun j => .float .f64 (getR r j)) ∧ Below w.heap.size w wr ∧ ∀ cc, cc < o * inner + k → ∃ y, r cc = some y) (fun _ kx _ => inner - (intOf kx).toNat)
        case atStart => exact ⟨0, Nat.zero_le _, rfl, HOWN'.out, HBL.out, HALL'.out⟩
        case round =>
          clear HOWN HOWN' HBL HALL HALL'
          obtain ⟨k, hk, rfl, hown, hbl, hall⟩ := hrel
          have HOWN := Lib.hid hown
          have HBL := Lib.hid hbl
          have HALL := Lib.hid hall
          clear hown hbl hall
          by_cases hltk : k < inner
          · have hcnt : o * inner + k < N := by
              have : (o + 1) * inner ≤ outer * inner := Nat.mul_le_mul_right _ hlt
              rw [Nat.add_mul] at this
              rw [HN.out]
              omega
            have HCNT := Lib.hid hcnt
            clear hcnt
            go_wp2_with fail
            refine (HLINE.out o k _ hlt hltk HBL.out).mono ?_
            rintro e w2 ⟨v2, rfl, hP, hb⟩
            have HP := Lib.hid hP
            have HBL2 := Lib.hid (bel_both HBL.out hb)
            have HOWN2 := Lib.hid (HOWN.out.below hb)
            clear hP hb HBL HOWN
            go_wp2_with fail
            refine (HROW.out o k _ _ hlt hltk HP.out).mono ?_
            rintro e w3 ⟨rfl, hb⟩
            have HBL := Lib.hid (bel_both HBL2.out hb)
            have HOWN := Lib.hid (HOWN2.out.below hb)
            clear hb HBL2 HOWN2 HP
            cases hr : r (o * inner + k) with
            | none =>
              have HBAD : Hid (∃ c, c < N ∧ r c = none) := ⟨_, HCNT.out, hr⟩
              clear hr
              go_wp2
              go_ret2
              exact .inr ⟨HBAD.out, rfl, HBL.out⟩
            | some y =>
              have HR := Lib.hid hr
              have HOS := Lib.hid (getR_succ hr)
              clear hr
              have hBw : w.heap.size ≤ w3.heap.size := HBL.out.size
              have HFL : Hid ((((List.range (o * inner + k)).map fun j => Value.float .f64 (getR r j)).length + 1) * 8 ≤ 140737488355328) := by
                rw [List.length_map, List.length_range]; have := HCNT.out; show _ ≤ _; omega
              have HFL2 : Hid (((List.range (o * inner + k)).map fun j => Value.float .f64 (getR r j)).length + 1 ≤ 140737488355328) := by
                rw [List.length_map, List.length_range]; have := HCNT.out; show _ ≤ _; omega
              go_wp2_with (at_builtin; refine wpList_push1 rfl (.tmp 70) (.tmp 72) 25 26 rfl Tryd.underlying25 (.float .f64 0) 8 info_f64 rfl w.heap.size _ ((List.range (o * inner + k)).map fun j => Value.float .f64 (getR r j)) rfl HOWN.out (.float .f64 y) rfl rfl HFL.out HFL2.out hBw ?_; intro v' w1 hv' hb' _ hs'; rw [HOS.out] at hv'; have HV := Lib.hid hv'; have HB' := Lib.hid (hb' w3 (Below.refl _ _)); clear hb' hv' hs')
              go_roundw
              case rel => exact ⟨k + 1, by omega, by go_num, HV.out, HBL.out.trans HB'.out, fun cc hcc => by
                by_cases e : cc = o * inner + k
                · exact ⟨y, by rw [e]; exact HR.out⟩
                · exact HALL.out cc (by omega)⟩
              case measure => simp [intOf]; omega
          · obtain rfl : k = inner := by omega
            have HOWN2 : Hid (Own1 wr w.heap.size 26 u14 ((List.range ((o + 1) * k)).map fun j => .float .f64 (getR r j))) := by rw [Nat.add_mul, Nat.one_mul]; exact HOWN.out
            have HALL2 : Hid (∀ cc, cc < (o + 1) * k → ∃ y, r cc = some y) := by rw [Nat.add_mul, Nat.one_mul]; exact HALL.out
            go_wp2
            go_roundw
            case rel => exact ⟨o + 1, by omega, by go_num, HOWN2.out, HBL.out, HALL2.out⟩
            case measure => simp [intOf]; omega
      · obtain rfl : o = outer := by omega
        have HALLN : Hid (∀ cc, cc < N → ∃ y, r cc = some y) := by rw [HN.out]; exact HALL.out
        have HOWNN : Hid (Own1 wr w.heap.size 26 u14 ((List.range N).map fun j => .float .f64 (getR r j))) := by rw [HN.out]; exact HOWN.out
        go_wp2
        go_ret2
        exact .inl ⟨HALLN.out, ⟨_, rfl, HOWNN.out⟩, HBL.out⟩
end Go.Proofs.YtdddmehchfnppaaDoor
