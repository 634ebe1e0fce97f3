/- Walks of slices.Equal over numbers and over runes. Conditions: as each theorem says. -/
import Derived.Test.YtmfklpacpjoggaaDoorTrCt
import Derived.Deep.QuietTactic
import Derived.BigQuiet
namespace Go.Proofs.YtmfklpacpjoggaaDoor
open Go Go.RowKit Go.Proofs

theorem Reads1.opn {w : World} {v : Value} {xs : List Value} (h : Reads1 w v xs) : ∃ A cc n, v = .slice A n cc ∧ n = xs.length ∧
    ∀ i (hi : i < xs.length), ∃ b o, A = some ⟨b, o, none⟩ ∧ ∀ w1, Below w.heap.size w w1 → w1.cell? ⟨b, o + i, none⟩ = some xs[i] := by
  rcases h with ⟨a, c, rfl, rfl⟩ | ⟨b, o, n, c, rfl, hn, hc⟩
  · exact ⟨a, c, 0, rfl, rfl, fun i hi => by simp at hi⟩
  · refine ⟨_, c, n, rfl, hn, fun i hi => ⟨b, o, rfl, fun w1 hb => ?_⟩⟩
    have := hc i hi
    rw [hb.cell (cell_lt this), this]

/-- two lists, element by element -/
def allEq {α : Type} (p : α → α → Bool) : List α → List α → Bool
  | [], [] => true
  | x :: xs, y :: ys => p x y && allEq p xs ys
  | _, _ => false
theorem allEq_len {α : Type} {p : α → α → Bool} : ∀ {a b : List α}, a.length ≠ b.length → allEq p a b = false
  | [], [], h => by simp at h
  | [], _ :: _, _ => rfl
  | _ :: _, [], _ => rfl
  | x :: xs, y :: ys, h => by rw [allEq, allEq_len (a := xs) (b := ys) (by simpa using h)]; simp
theorem allEq_step {α : Type} {p : α → α → Bool} {a b : List α} {k : Nat} (ha : k < a.length) (hb : k < b.length) : allEq p (a.drop k) (b.drop k) = (p a[k] b[k] && allEq p (a.drop (k + 1)) (b.drop (k + 1))) := by
  rw [List.drop_eq_getElem_cons ha, List.drop_eq_getElem_cons hb, allEq]
theorem allEq_end {α : Type} {p : α → α → Bool} {a b : List α} {k : Nat} (ha : a.length ≤ k) (hb : b.length ≤ k) : allEq p (a.drop k) (b.drop k) = true := by
  rw [List.drop_eq_nil_of_le ha, List.drop_eq_nil_of_le hb]; rfl

/-- are two floats equal? -/
def feqB (a b : Nat) : Bool := decide (Ieee.double.order a b = some .eq)
theorem cmp_eq {a b : Int} (h : compare a b = .eq) : compare b a = .eq := by
  have : a = b := by
    simp only [compare, compareOfLessAndEq] at h
    split at h
    · cases h
    · split at h
      · assumption
      · cases h
  subst this; exact h
theorem cmpN_eq {a b : Nat} (h : compare a b = .eq) : compare b a = .eq := by
  have : a = b := by
    simp only [compare, compareOfLessAndEq] at h
    split at h
    · cases h
    · split at h
      · assumption
      · cases h
  subst this; exact h
theorem feq_comm (a b : Nat) : feqB a b = feqB b a := by
  have h : ∀ x y : Ieee.Datum, x.order y = some .eq → y.order x = some .eq := by
    intro x y h
    cases x <;> cases y <;> simp only [Ieee.Datum.order, Option.some.injEq, reduceCtorEq] at h ⊢
    · rw [Int.min_comm] at h
      exact cmp_eq h
    · split at h <;> cases h
    · split at h <;> cases h
    · exact cmpN_eq h
  unfold feqB
  exact decide_eq_decide.2 ⟨h _ _, h _ _⟩
theorem neq_float (a b : Nat) (w : World) : (binOp .neq 41 (.float .f64 a) (.float .f64 b)).run Tryd.prog w = .ok (.bool (!feqB a b)) w := by
  unfold feqB
  have h : FloatKind.f64.format.order a b = Ieee.double.order a b := rfl
  by_cases e : Ieee.double.order a b = some .eq
  · simp [go_sem, h, e]
  · simp [go_sem, h, e]

theorem Below.drewN2 {B : Nat} {a w : World} (h : Below B a w) (k : Nat) : Below B a (w.drewN k) := ⟨h.os, h.tape, h.output, h.size, h.block⟩
/-- are two runes equal? -/
def ieqB (a b : Int) : Bool := decide (a = b)
theorem ieq_comm (a b : Int) : ieqB a b = ieqB b a := decide_eq_decide.2 eq_comm

set_option maxRecDepth 100000 in
set_option maxHeartbeats 1600000 in
theorem equalN_walk (va vb : Value) (la lb : List Nat) (w : World) (ha : Reads1 w va (la.map (Value.float .f64))) (hb : Reads1 w vb (lb.map (Value.float .f64))) (hl : la.length ≤ 1048576) (hl2 : lb.length ≤ 1048576) :
    Calls Tryd.prog 14 #[va, vb] w fun e w' => e = .returned (.bool (allEq feqB la lb)) ∧ Below w.heap.size w w' := by
  obtain ⟨A, cc, n, rfl, hn, hcell⟩ := ha.opn
  obtain ⟨A2, cc2, n2, rfl, hn2, hcell2⟩ := hb.opn
  rw [List.length_map] at hn hn2
  have HC := Lib.hid hcell
  have HC2 := Lib.hid hcell2
  have HN := Lib.hid hn
  have HN2 := Lib.hid hn2
  have hb1 : n ≤ 1048576 := by omega
  have hb2 : n2 ≤ 1048576 := by omega
  obtain ⟨R, hR⟩ : ∃ R, R = allEq feqB la lb := ⟨_, rfl⟩
  have HR : Hid (R = allEq feqB (la.drop 0) (lb.drop 0)) := hR
  have HLE : Hid (la.length ≠ lb.length → R = false) := fun h => by rw [hR]; exact allEq_len h
  have HST : Hid (∀ k (h1 : k < la.length) (h2 : k < lb.length), allEq feqB (la.drop k) (lb.drop k) = (feqB la[k] lb[k] && allEq feqB (la.drop (k + 1)) (lb.drop (k + 1)))) := fun k h1 h2 => allEq_step h1 h2
  have HEN : Hid (∀ k, la.length ≤ k → lb.length ≤ k → allEq feqB (la.drop k) (lb.drop k) = true) := fun k h1 h2 => allEq_end h1 h2
  rw [← hR]
  clear hcell hcell2 hn hn2 ha hb hl hl2 hR
  by_cases hnn : n = n2
  · subst hnn
    have hne : ((n : Int) != (n : Int)) = false := by simp
    go_enter Tryd.func14, Tryd.ntmps14
    go_wp2
    go_loopw [5, 13] (fun _ i wr => ∃ k : Nat, k ≤ n ∧ i = .int .i64 (k : Int) ∧ Below w.heap.size w wr ∧ Hid (R = allEq feqB (la.drop k) (lb.drop k))) (fun _ i _ => n - (intOf i).toNat)
    case atStart => exact ⟨0, Nat.zero_le _, rfl, Below.refl _ _, HR.out⟩
    case round =>
      obtain ⟨k, hk, rfl, hbl, heq⟩ := hrel
      have HBL := Lib.hid hbl
      by_cases hlt : k < n
      · have h1 : k < la.length := by have := HN.out; omega
        have h2 : k < lb.length := by have := HN2.out; omega
        obtain ⟨b, o, rfl, hce⟩ := HC.out k (by rw [List.length_map]; exact h1)
        obtain ⟨b', o', rfl, hce'⟩ := HC2.out k (by rw [List.length_map]; exact h2)
        have c1 := hce _ hbl
        have c2 := hce' _ hbl
        rw [List.getElem_map] at c1 c2
        have HS := Lib.hid (HST.out k h1 h2)
        generalize la[k] = x at *
        generalize lb[k] = y at *
        skip
        cases hxy : feqB x y with
        | true =>
          have HT : Hid (R = allEq feqB (la.drop (k + 1)) (lb.drop (k + 1))) := by unfold Hid; rw [heq.out, HS.out, hxy]; rfl
          have hf1 : FloatKind.f64.format.order x y = some .eq := of_decide_eq_true hxy
          have hf2 : (FloatKind.f64.format.order x y == some .eq) = true := by rw [hf1]; rfl
          have hf3 : (FloatKind.f64.format.order x y != some .eq) = false := by rw [hf1]; rfl
          have HF1 := Lib.hid hf1
          clear hf1
          have hlt2 : (k : Int) < (n : Int) := by omega
          clear hxy heq hbl hce hce' HS
          go_wp2
          go_quiet (fail)
          go_wp2
          go_roundw
          case rel => exact ⟨k + 1, by omega, by go_num, Below.drewN2 HBL.out _, HT.out⟩
          case measure => simp [intOf]; omega
        | false =>
          have HT : Hid (R = false) := by unfold Hid; rw [heq.out, HS.out, hxy]; rfl
          have hf1 : ¬ FloatKind.f64.format.order x y = some .eq := of_decide_eq_false hxy
          have hf2 : (FloatKind.f64.format.order x y == some .eq) = false := by simpa using hf1
          have hf3 : (FloatKind.f64.format.order x y != some .eq) = true := by simpa using hf1
          have hlt2 : (k : Int) < (n : Int) := by omega
          clear hxy heq hbl hce hce' HS
          go_wp2
          go_quiet (fail)
          go_wp2
          go_ret
          exact ⟨by rw [HT.out]; rfl, Below.drewN2 HBL.out _⟩
      · have HT : Hid (R = true) := by unfold Hid; rw [heq.out, HEN.out k (by have := HN.out; omega) (by have := HN2.out; omega)]
        clear heq hbl
        go_wp2
        go_ret
        exact ⟨by rw [HT.out]; rfl, HBL.out⟩
  · have HT : Hid (R = false) := HLE.out fun e => hnn (by rw [HN.out, HN2.out, e])
    have hne : ((n : Int) != (n2 : Int)) = true := by simp; omega
    go_enter Tryd.func14, Tryd.ntmps14
    go_wp2
    go_ret
    exact ⟨by rw [HT.out]; rfl, Below.refl _ _⟩

set_option maxRecDepth 100000 in
set_option maxHeartbeats 1600000 in
theorem equalR_walk (va vb : Value) (la lb : List Int) (w : World) (ha : Reads1 w va (la.map (Value.int .i32))) (hb : Reads1 w vb (lb.map (Value.int .i32))) (hl : la.length ≤ 1048576) (hl2 : lb.length ≤ 1048576) :
    Calls Tryd.prog 15 #[va, vb] w fun e w' => e = .returned (.bool (allEq ieqB la lb)) ∧ Below w.heap.size w w' := by
  obtain ⟨A, cc, n, rfl, hn, hcell⟩ := ha.opn
  obtain ⟨A2, cc2, n2, rfl, hn2, hcell2⟩ := hb.opn
  rw [List.length_map] at hn hn2
  have HC := Lib.hid hcell
  have HC2 := Lib.hid hcell2
  have HN := Lib.hid hn
  have HN2 := Lib.hid hn2
  have hb1 : n ≤ 1048576 := by omega
  have hb2 : n2 ≤ 1048576 := by omega
  obtain ⟨R, hR⟩ : ∃ R, R = allEq ieqB la lb := ⟨_, rfl⟩
  have HR : Hid (R = allEq ieqB (la.drop 0) (lb.drop 0)) := hR
  have HLE : Hid (la.length ≠ lb.length → R = false) := fun h => by rw [hR]; exact allEq_len h
  have HST : Hid (∀ k (h1 : k < la.length) (h2 : k < lb.length), allEq ieqB (la.drop k) (lb.drop k) = (ieqB la[k] lb[k] && allEq ieqB (la.drop (k + 1)) (lb.drop (k + 1)))) := fun k h1 h2 => allEq_step h1 h2
  have HEN : Hid (∀ k, la.length ≤ k → lb.length ≤ k → allEq ieqB (la.drop k) (lb.drop k) = true) := fun k h1 h2 => allEq_end h1 h2
  rw [← hR]
  clear hcell hcell2 hn hn2 ha hb hl hl2 hR
  by_cases hnn : n = n2
  · subst hnn
    have hne : ((n : Int) != (n : Int)) = false := by simp
    go_enter Tryd.func15, Tryd.ntmps15
    go_wp2
    go_loopw [5, 13] (fun _ i wr => ∃ k : Nat, k ≤ n ∧ i = .int .i64 (k : Int) ∧ Below w.heap.size w wr ∧ Hid (R = allEq ieqB (la.drop k) (lb.drop k))) (fun _ i _ => n - (intOf i).toNat)
    case atStart => exact ⟨0, Nat.zero_le _, rfl, Below.refl _ _, HR.out⟩
    case round =>
      obtain ⟨k, hk, rfl, hbl, heq⟩ := hrel
      have HBL := Lib.hid hbl
      by_cases hlt : k < n
      · have h1 : k < la.length := by have := HN.out; omega
        have h2 : k < lb.length := by have := HN2.out; omega
        obtain ⟨b, o, rfl, hce⟩ := HC.out k (by rw [List.length_map]; exact h1)
        obtain ⟨b', o', rfl, hce'⟩ := HC2.out k (by rw [List.length_map]; exact h2)
        have c1 := hce _ hbl
        have c2 := hce' _ hbl
        rw [List.getElem_map] at c1 c2
        have HS := Lib.hid (HST.out k h1 h2)
        generalize la[k] = x at *
        generalize lb[k] = y at *
        skip
        cases hxy : ieqB x y with
        | true =>
          have HT : Hid (R = allEq ieqB (la.drop (k + 1)) (lb.drop (k + 1))) := by unfold Hid; rw [heq.out, HS.out, hxy]; rfl
          obtain rfl : x = y := by unfold ieqB at hxy; simpa using hxy
          have hfe : (x != x) = false := by simp
          have hlt2 : (k : Int) < (n : Int) := by omega
          clear hxy heq hbl hce hce' HS
          go_wp2
          go_quiet (fail)
          go_wp2
          go_roundw
          case rel => exact ⟨k + 1, by omega, by go_num, Below.drewN2 HBL.out _, HT.out⟩
          case measure => simp [intOf]; omega
        | false =>
          have HT : Hid (R = false) := by unfold Hid; rw [heq.out, HS.out, hxy]; rfl
          have hfe : (x != y) = true := by unfold ieqB at hxy; simpa using hxy
          have hlt2 : (k : Int) < (n : Int) := by omega
          clear hxy heq hbl hce hce' HS
          go_wp2
          go_quiet (fail)
          go_wp2
          go_ret
          exact ⟨by rw [HT.out]; rfl, Below.drewN2 HBL.out _⟩
      · have HT : Hid (R = true) := by unfold Hid; rw [heq.out, HEN.out k (by have := HN.out; omega) (by have := HN2.out; omega)]
        clear heq hbl
        go_wp2
        go_ret
        exact ⟨by rw [HT.out]; rfl, HBL.out⟩
  · have HT : Hid (R = false) := HLE.out fun e => hnn (by rw [HN.out, HN2.out, e])
    have hne : ((n : Int) != (n2 : Int)) = true := by simp; omega
    go_enter Tryd.func15, Tryd.ntmps15
    go_wp2
    go_ret
    exact ⟨by rw [HT.out]; rfl, Below.refl _ _⟩
end Go.Proofs.YtmfklpacpjoggaaDoor
