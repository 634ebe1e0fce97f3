/- The walks of Text, Known, the reference's Known and Runes, and of Fold and Scan at what is not put together. Conditions: as each theorem says. -/
import Derived.Test.YtdddmehchfnppaaDoorMg06
import Derived.Deep.QuietTactic
import Derived.BigQuiet
namespace Go.Proofs.YtdddmehchfnppaaDoor
open Go Go.RowKit Go.Proofs Fl

/-- is there such a function? -/
def knownB (f : Int) : Bool := decide ((1 ≤ f ∧ f ≤ 8) ∨ (11 ≤ f ∧ f ≤ 16) ∨ (21 ≤ f ∧ f ≤ 24))

set_option maxHeartbeats 1000000 in
theorem known_any (f : Int) (w : World) : Calls Tryd.prog 26 #[.int .i64 f] w fun e w' => e = .returned (.bool (knownB f)) ∧ w = w' := by
  go_enter Tryd.func26, Tryd.ntmps26
  go_wp2
  all_goals go_ret
  all_goals refine ⟨?_, rfl⟩
  all_goals unfold knownB
  all_goals refine congrArg (fun b => Ending.returned (.bool b)) ?_
  all_goals rw [Bool.eq_iff_iff]
  all_goals first | (simp; done) | (simp; omega)

set_option maxHeartbeats 1000000 in
theorem rknown_any (f : Int) (w : World) : Calls Tryd.prog 19 #[.int .i64 f] w fun e w' => e = .returned (.bool (knownB f)) ∧ w = w' := by
  go_enter Tryd.func19, Tryd.ntmps19
  go_wp2
  all_goals go_ret
  all_goals refine ⟨?_, rfl⟩
  all_goals unfold knownB
  all_goals refine congrArg (fun b => Ending.returned (.bool b)) ?_
  all_goals rw [Bool.eq_iff_iff]
  all_goals first | (simp; done) | (simp; omega)

theorem cells_of {w : World} {v : Value} {l : List Int} (h : Reads1 w v (l.map (.int .i32))) : (∃ a c, v = .slice a 0 c ∧ l = []) ∨ ∃ b o c, v = .slice (some ⟨b, o, none⟩) l.length c ∧ ∀ i (h : i < l.length), w.cell? ⟨b, o + i, none⟩ = some (.int .i32 l[i]) := by
  rcases h.at with ⟨a, c, e, h0⟩ | ⟨b, o, c, e, hc⟩
  · exact .inl ⟨a, c, e, List.map_eq_nil_iff.1 h0⟩
  · refine .inr ⟨b, o, c, by rw [e, List.length_map], fun i hi => ?_⟩
    rw [hc i (by simpa using hi)]; simp

set_option maxHeartbeats 1000000 in
theorem text_any (b : Value) (bn : Int) (s i f x : Value) {w : World} {v : Value} {l : List Int} (h : Reads1 w v (l.map (.int .i32))) (hl : l.length ≤ 1000000) :
    Calls Tryd.prog 21 #[vecV 5 b bn s i f v x] w fun e w' => ∃ u, e = .returned u ∧ Own1 w' w.heap.size 21 u (l.map (.int .i32)) ∧ Below w.heap.size w w' := by
  have HC := Lib.hid (fun w2 (hb : Below w.heap.size w w2) => clR_any (h.below hb) (by rw [List.length_map]; omega) (by intro u hu; obtain ⟨z, _, rfl⟩ := List.mem_map.1 hu; rfl))
  clear h
  go_enter Tryd.func21, Tryd.ntmps21
  go_wp2_with fail
  refine (HC.out _ (bel1 _ _)).mono ?_
  rintro e w1 ⟨u, rfl, ho, hb1⟩
  have HB1 := Lib.hid ((bel1 w _).trans (hb1.mono (bel1 w _).size))
  have HO := Lib.hid ho
  clear hb1 ho
  go_wp2
  go_ret
  exact ⟨_, rfl, HO.out.lower (by simp), HB1.out⟩

theorem drewN1' {B : Nat} {a w : World} (h : Below B a w) (k : Nat) : Below B a (w.drewN k) := ⟨h.os, h.tape, h.output, h.size, h.block⟩
theorem getD_of' {l : List Int} {i : Nat} (h : i < l.length) : l.getD i 0 = l[i] := by simp [List.getD, h]
theorem runes_opn {w : World} {v : Value} {l : List Int} (h : Runes w v l) : ∃ A cc n, v = .slice A n cc ∧ n = l.length ∧
    ∀ i, i < l.length → ∃ b o, A = some ⟨b, o, none⟩ ∧ ∀ w1, Below w.heap.size w w1 → w1.cell? ⟨b, o + i, none⟩ = some (.int .i32 (l.getD i 0)) := by
  rcases h with ⟨a, c, rfl, rfl⟩ | ⟨b, o, n, c, rfl, hn, hc⟩
  · exact ⟨a, c, 0, rfl, rfl, fun i hi => by simp at hi⟩
  · refine ⟨_, c, n, rfl, hn, fun i hi => ⟨b, o, rfl, fun w1 hb => ?_⟩⟩
    have := hc i hi
    rw [hb.cell (cell_lt this), this]
    simp [List.getD, hi]

theorem take_succ_eq1 {sa sb : List Int} {k : Nat} (ha : k < sa.length) (hb : k < sb.length) (h : sa.take k = sb.take k) (he : sa.getD k 0 = sb.getD k 0) : sa.take (k + 1) = sb.take (k + 1) := by
  rw [List.take_succ_eq_append_getElem ha, List.take_succ_eq_append_getElem hb, h]
  rw [getD_of' ha, getD_of' hb] at he
  rw [he]

set_option maxRecDepth 100000 in
set_option maxHeartbeats 1600000 in
theorem runesEq_walk (va vb : Value) (la lb : List Int) (w : World) (ha : Runes w va la) (hb : Runes w vb lb) (hl : la.length ≤ 1099511627776) (hl2 : lb.length ≤ 1099511627776) :
    Calls Tryd.prog 20 #[va, vb] w fun e w' => e = .returned (.bool (decide (la = lb))) ∧ Below w.heap.size w w' := by
  obtain ⟨A, cc, n, rfl, hn, hcell⟩ := runes_opn ha
  obtain ⟨A2, cc2, n2, rfl, hn2, hcell2⟩ := runes_opn hb
  have HC := Lib.hid hcell
  have HC2 := Lib.hid hcell2
  have HN := Lib.hid hn
  have HN2 := Lib.hid hn2
  have hb1 : n ≤ 1099511627776 := by omega
  have hb2 : n2 ≤ 1099511627776 := by omega
  clear hcell hcell2 hn hn2 ha hb hl hl2
  by_cases hnn : n = n2
  · subst hnn
    have hne : ((n : Int) != (n : Int)) = false := by simp
    go_enter Tryd.func20, Tryd.ntmps20
    go_wp2
    go_loopw [5] (fun i wr => ∃ k : Nat, k ≤ n ∧ i = .int .i64 (k : Int) ∧ Below w.heap.size w wr ∧ Hid (la.take k = lb.take k)) (fun i _ => n - (intOf i).toNat)
    case atStart => exact ⟨0, Nat.zero_le _, rfl, Below.refl _ _, by simp [Hid]⟩
    case round =>
      obtain ⟨k, hk, rfl, hbl, heq⟩ := hrel
      have HBL := Lib.hid hbl
      by_cases hlt : k < n
      · have h1 : k < la.length := by have := HN.out; omega
        have h2 : k < lb.length := by have := HN2.out; omega
        obtain ⟨b, o, rfl, hce⟩ := HC.out k h1
        obtain ⟨b', o', rfl, hce'⟩ := HC2.out k h2
        have c1 := hce _ hbl
        have c2 := hce' _ hbl
        obtain ⟨x, hx⟩ : ∃ x, x = la.getD k 0 := ⟨_, rfl⟩
        obtain ⟨y, hy⟩ : ∃ y, y = lb.getD k 0 := ⟨_, rfl⟩
        rw [← hx] at c1
        rw [← hy] at c2
        by_cases hxy : x = y
        · have HT : Hid (la.take (k + 1) = lb.take (k + 1)) := take_succ_eq1 h1 h2 heq.out (by rw [← hx, ← hy]; exact hxy)
          have hxx : (x != x) = false := by simp
          have hlt2 : (k : Int) < (n : Int) := by omega
          rw [← hxy] at c2
          clear hx hy hxy heq hbl hce hce'
          go_wp2
          go_quiet (fail)
          go_wp2
          go_roundw
          case rel => exact ⟨k + 1, by omega, by go_num, drewN1' HBL.out _, HT.out⟩
          case measure => simp [intOf]; omega
        · have HT : Hid (decide (la = lb) = false) := by
            refine decide_eq_false fun e => hxy ?_
            rw [hx, hy, e]
          have hxx : (x != y) = true := by simpa using hxy
          have hlt2 : (k : Int) < (n : Int) := by omega
          clear hx hy hxy heq hbl hce hce'
          go_wp2
          go_quiet (fail)
          go_wp2
          go_ret
          exact ⟨by rw [HT.out]; rfl, drewN1' HBL.out _⟩
      · have HT : Hid (decide (la = lb) = true) := by
          have := heq.out
          rw [List.take_of_length_le (by have := HN.out; omega), List.take_of_length_le (by have := HN2.out; omega)] at this
          exact decide_eq_true this
        clear heq hbl
        go_wp2
        go_ret
        exact ⟨by rw [HT.out]; rfl, HBL.out⟩
  · have HT : Hid (decide (la = lb) = false) := decide_eq_false fun e => hnn (by rw [HN.out, HN2.out, e])
    have hne : ((n : Int) != (n2 : Int)) = true := by simp; omega
    go_enter Tryd.func20, Tryd.ntmps20
    go_wp2
    go_ret
    exact ⟨by rw [HT.out]; rfl, Below.refl _ _⟩

theorem reads_opn {w : World} {v : Value} {n : Nat} {y : Nat → Value} (h : Reads1 w v ((List.range n).map y)) : ∃ A cc, v = .slice A n cc ∧
    ∀ i, i < n → ∃ b o, A = some ⟨b, o, none⟩ ∧ ∀ w1, Below w.heap.size w w1 → w1.cell? ⟨b, o + i, none⟩ = some (y i) := by
  rcases h with ⟨a, c, rfl, h0⟩ | ⟨b, o, m, c, rfl, hn, hc⟩
  · have hn : n = 0 := by simpa using h0
    subst hn
    exact ⟨a, c, rfl, fun i hi => by omega⟩
  · have hm : m = n := by simpa using hn
    subst hm
    refine ⟨_, c, rfl, fun i hi => ⟨b, o, rfl, fun w1 hb => ?_⟩⟩
    have := hc i (by simpa using hi)
    rw [hb.cell (cell_lt this), this]
    simp

set_option maxRecDepth 100000 in
set_option maxHeartbeats 1600000 in
/-- two rows of the same numbers -/
theorem same_walk (va vb : Value) (n : Nat) (y : Nat → Nat) (w : World) (ha : Reads1 w va ((List.range n).map fun j => .float .f64 (y j))) (hb : Reads1 w vb ((List.range n).map fun j => .float .f64 (y j))) (hn : n ≤ 1000000)
    (hbits : ∀ i, i < n → ∀ W, Calls Tryd.prog 37 #[.float .f64 (y i), .float .f64 (y i)] W fun e w' => e = .returned (.bool true) ∧ W = w') :
    Calls Tryd.prog 12 #[va, vb] w fun e w' => e = .returned (.bool true) ∧ Below w.heap.size w w' := by
  obtain ⟨A, cc, rfl, hcell⟩ := reads_opn ha
  obtain ⟨A2, cc2, rfl, hcell2⟩ := reads_opn hb
  have HC := Lib.hid hcell
  have HC2 := Lib.hid hcell2
  have HBT := Lib.hid hbits
  have hne : ((n : Int) != (n : Int)) = false := by simp
  clear hcell hcell2 ha hb hbits
  go_enter Tryd.func12, Tryd.ntmps12
  go_wp2
  go_loopw [5] (fun i wr => ∃ k : Nat, k ≤ n ∧ i = .int .i64 (k : Int) ∧ Below w.heap.size w wr) (fun i _ => n - (intOf i).toNat)
  case atStart => exact ⟨0, Nat.zero_le _, rfl, Below.refl _ _⟩
  case round =>
    obtain ⟨k, hk, rfl, hbl⟩ := hrel
    have HBL := Lib.hid hbl
    by_cases hlt : k < n
    · obtain ⟨b, o, rfl, hce⟩ := HC.out k hlt
      obtain ⟨b', o', rfl, hce'⟩ := HC2.out k hlt
      have c1 := hce _ hbl
      have c2 := hce' _ hbl
      have HT : Hid (∀ W, Calls Tryd.prog 37 #[.float .f64 (y k), .float .f64 (y k)] W fun e w' => e = .returned (.bool true) ∧ ∃ m, w' = W.drewN m) := fun W => (HBT.out k hlt W).mono fun e w' ⟨h1, h2⟩ => ⟨h1, 0, by rw [← h2]; rfl⟩
      have hlt2 : (k : Int) < (n : Int) := by omega
      clear hbl hce hce'
      go_wp2
      go_quiet (first | (go_at_call 37; refine Calls.quiet_of (HT.out _)))
      go_wp2
      go_roundw
      case rel => exact ⟨k + 1, by omega, by go_num, drewN1' HBL.out _⟩
      case measure => simp [intOf]; omega
    · clear hbl
      go_wp2
      go_ret
      exact ⟨rfl, HBL.out⟩
end Go.Proofs.YtdddmehchfnppaaDoor
