/- Walks of utf8.RuneCountInString, of the reference's Runes, and of lex.Runes. Conditions: as each theorem says. -/
import Derived.Test.YtnhnaallalgefaaDoorLexC
import Derived.Test.YtnhnaallalgefaaDoorRnd
import Derived.Test.YtnhnaallalgefaaDoorRai
import Derived.Deep.QuietTactic
import Derived.BigQuiet
namespace Go.Proofs.YtnhnaallalgefaaDoor
open Go Go.RowKit Go.Proofs

theorem Below.drewN1 {B : Nat} {a w : World} (h : Below B a w) (k : Nat) : Below B a (w.drewN k) := ⟨h.os, h.tape, h.output, h.size, h.block⟩

set_option maxRecDepth 100000 in
theorem count_walk (s : ByteArray) (w : World) (hs : s.size ≤ 140737488351232) : Calls Tryd.prog 57 #[.string s] w fun e w' => e = .returned (.int .i64 ((runesOf s).length : Int)) ∧ Below w.heap.size w w' := by
  obtain ⟨R, hR⟩ : ∃ R, R = (runesOf s).length := ⟨_, rfl⟩
  have HR0 : Hid (R = 0 + (rl s (s.size - 0) 0).length) := by unfold Hid; rw [hR]; simp [runesOf]
  have hRle : R ≤ s.size := by rw [hR]; exact runesOf_len s
  rw [← hR]
  clear hR
  have HRle := Lib.hid hRle
  clear hRle
  go_enter Tryd.func57, Tryd.ntmps57
  go_wp2
  go_loopw [2] (fun n wr => ∃ pos k : Nat, wr = w.iter s pos ∧ k ≤ s.size ∧ n = .int .i64 (k : Int) ∧ Hid (R = k + (rl s (s.size - pos) pos).length)) (fun _ wr => s.size - wr.iterPos w.heap.size)
  case atStart => exact ⟨0, 0, rfl, Nat.zero_le _, rfl, HR0.out⟩
  case round =>
    obtain ⟨pos, k, rfl, hkp, rfl, hrel⟩ := hrel
    by_cases h : pos < s.size
    · have hnx := fun ty => run_next_any (P := Tryd.prog) w s pos ty h
      have HS := Lib.hid (rl_step s h)
      have hwd := Lib.decode_width_pos s pos h
      generalize Utf8.decode s pos = d at *
      obtain ⟨x, m⟩ := d
      simp only at hnx hwd HS
      have HT : Hid (R = (k + 1) + (rl s (s.size - (pos + m)) (pos + m)).length) := by unfold Hid; rw [hrel.out, HS.out]; simp; omega
      have hk1 : k + 1 ≤ s.size := by have := HT.out; have := HRle.out; omega
      clear HS hrel
      go_wp2
      go_roundw
      case rel => exact ⟨pos + m, k + 1, rfl, hk1, by go_num, HT.out⟩
      case measure => simp; omega
    · have hnx := fun ty => run_next_end (P := Tryd.prog) w s pos ty h
      have HT : Hid (R = k) := by unfold Hid; rw [hrel.out, rl_end s (by omega)]; simp
      clear hrel
      go_wp2
      go_ret
      exact ⟨by rw [HT.out]; rfl, (Below.refl _ w).alloc (Nat.le_refl _) _⟩

theorem take_succ_eq1 {sa sb : List Int} {k : Nat} (ha : k < sa.length) (hb : k < sb.length) (h : sa.take k = sb.take k) (he : sa.getD k 0 = sb.getD k 0) : sa.take (k + 1) = sb.take (k + 1) := by
  rw [List.take_succ_eq_append_getElem ha, List.take_succ_eq_append_getElem hb, h]
  rw [getD_of ha, getD_of hb] at he
  rw [he]

set_option maxRecDepth 100000 in
set_option maxHeartbeats 1600000 in
theorem runesEq_walk (va vb : Value) (la lb : List Int) (w : World) (ha : Runes w va la) (hb : Runes w vb lb) (hl : la.length ≤ 1099511627776) (hl2 : lb.length ≤ 1099511627776) :
    Calls Tryd.prog 58 #[va, vb] w fun e w' => e = .returned (.bool (decide (la = lb))) ∧ Below w.heap.size w w' := by
  obtain ⟨A, cc, n, rfl, hn, hcell⟩ := ha.opn
  obtain ⟨A2, cc2, n2, rfl, hn2, hcell2⟩ := hb.opn
  have HC := Lib.hid hcell
  have HC2 := Lib.hid hcell2
  have HN := Lib.hid hn
  have HN2 := Lib.hid hn2
  have hb1 : n ≤ 1099511627776 := by omega
  have hb2 : n2 ≤ 1099511627776 := by omega
  clear hcell hcell2 hn hn2 ha hb hl hl2
  by_cases hnn : n = n2
  · subst hnn
    have hne : ((n : Int) != (n : Int)) = false := by simp
    go_enter Tryd.func58, Tryd.ntmps58
    go_wp2
    go_loopw [5] (fun i wr => ∃ k : Nat, k ≤ n ∧ i = .int .i64 (k : Int) ∧ Below w.heap.size w wr ∧ Hid (la.take k = lb.take k)) (fun i _ => n - (intOf i).toNat)
    case atStart => exact ⟨0, Nat.zero_le _, rfl, Below.refl _ _, by simp [Hid]⟩
    case round =>
      obtain ⟨k, hk, rfl, hbl, heq⟩ := hrel
      have HBL := Lib.hid hbl
      by_cases hlt : k < n
      · have h1 : k < la.length := by have := HN.out; omega
        have h2 : k < lb.length := by have := HN2.out; omega
        obtain ⟨b, o, rfl, hce⟩ := HC.out k h1
        obtain ⟨b', o', rfl, hce'⟩ := HC2.out k h2
        have c1 := hce _ hbl
        have c2 := hce' _ hbl
        obtain ⟨x, hx⟩ : ∃ x, x = la.getD k 0 := ⟨_, rfl⟩
        obtain ⟨y, hy⟩ : ∃ y, y = lb.getD k 0 := ⟨_, rfl⟩
        rw [← hx] at c1
        rw [← hy] at c2
        by_cases hxy : x = y
        · have HT : Hid (la.take (k + 1) = lb.take (k + 1)) := take_succ_eq1 h1 h2 heq.out (by rw [← hx, ← hy]; exact hxy)
          have hxx : (x != x) = false := by simp
          have hlt2 : (k : Int) < (n : Int) := by omega
          rw [← hxy] at c2
          clear hx hy hxy heq hbl hce hce'
          go_wp2
          go_quiet (fail)
          go_wp2
          go_roundw
          case rel => exact ⟨k + 1, by omega, by go_num, Below.drewN1 HBL.out _, HT.out⟩
          case measure => simp [intOf]; omega
        · have HT : Hid (decide (la = lb) = false) := by
            refine decide_eq_false fun e => hxy ?_
            rw [hx, hy, e]
          have hxx : (x != y) = true := by simpa using hxy
          have hlt2 : (k : Int) < (n : Int) := by omega
          clear hx hy hxy heq hbl hce hce'
          go_wp2
          go_quiet (fail)
          go_wp2
          go_ret
          exact ⟨by rw [HT.out]; rfl, Below.drewN1 HBL.out _⟩
      · have HT : Hid (decide (la = lb) = true) := by
          have := heq.out
          rw [List.take_of_length_le (by have := HN.out; omega), List.take_of_length_le (by have := HN2.out; omega)] at this
          exact decide_eq_true this
        clear heq hbl
        go_wp2
        go_ret
        exact ⟨by rw [HT.out]; rfl, HBL.out⟩
  · have HT : Hid (decide (la = lb) = false) := decide_eq_false fun e => hnn (by rw [HN.out, HN2.out, e])
    have hne : ((n : Int) != (n2 : Int)) = true := by simp; omega
    go_enter Tryd.func58, Tryd.ntmps58
    go_wp2
    go_ret
    exact ⟨by rw [HT.out]; rfl, Below.refl _ _⟩
end Go.Proofs.YtnhnaallalgefaaDoor
