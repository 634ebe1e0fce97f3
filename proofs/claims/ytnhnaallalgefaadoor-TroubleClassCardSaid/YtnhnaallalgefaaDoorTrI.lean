/- The reference's Texts: are two lists of strings the same ones? Conditions: fewer than 2^40 strings. -/
import Derived.Test.YtnhnaallalgefaaDoorTrE
namespace Go.Proofs.YtnhnaallalgefaaDoor
open Go Go.RowKit Go.Proofs

theorem take_succ_eq {sa sb : List ByteArray} {k : Nat} (ha : k < sa.length) (hb : k < sb.length) (h : sa.take k = sb.take k) (he : sa[k] = sb[k]) : sa.take (k + 1) = sb.take (k + 1) := by
  rw [List.take_succ_eq_append_getElem ha, List.take_succ_eq_append_getElem hb, h, he]

theorem toList_inj {a b : ByteArray} (h : a.toList = b.toList) : a = b := by
  rw [ByteArray.toList_eq, ByteArray.toList_eq] at h
  exact ByteArray.ext (Array.toList_inj.1 h)

set_option maxRecDepth 100000 in
set_option maxHeartbeats 1000000 in
theorem texts_walk (va vb : Value) (sa sb : List ByteArray) (w : World) (ha : Sts w va sa) (hb : Sts w vb sb) (hl : sa.length ≤ 1099511627776) (hl2 : sb.length ≤ 1099511627776) :
    Calls Tryd.prog 46 #[va, vb] w fun e w' => e = .returned (.bool (decide (sa = sb))) ∧ ∃ m, w' = w.drewN m := by
  obtain ⟨A, cc, n, rfl, hn, hc⟩ := ha.open_
  obtain ⟨A2, cc2, n2, rfl, hn2, hc2⟩ := hb.open_
  have HC := Lib.hid hc
  have HN := Lib.hid hn
  have HC2 := Lib.hid hc2
  have HN2 := Lib.hid hn2
  have hl' : n ≤ 1099511627776 := by omega
  have hl2' : n2 ≤ 1099511627776 := by omega
  clear hc hn hl ha hc2 hn2 hl2 hb
  by_cases hnn : n = n2
  · subst hnn
    go_enter Tryd.func46, Tryd.ntmps46
    go_wp2
    go_loopw [5] (fun i wr => ∃ k m : Nat, k ≤ n ∧ i = .int .i64 (k : Int) ∧ Hid (sa.take k = sb.take k) ∧ Hid (wr = w.drewN m)) (fun i _ => n - (intOf i).toNat)
    case atStart => exact ⟨0, 0, Nat.zero_le _, by go_num, rfl, rfl⟩
    case round =>
      obtain ⟨k, m, hk, rfl, htk, hwr⟩ := hrel
      have HW := hwr
      by_cases hlt : k < n
      · have hj : k < sa.length := by have := HN.out; omega
        have hj2 : k < sb.length := by have := HN2.out; omega
        obtain ⟨b, o, rfl, hcell⟩ := HC.out k hj
        obtain ⟨b2, o2, rfl, hcell2⟩ := HC2.out k hj2
        have hbw : Below w.heap.size w wr := by rw [HW.out]; exact Below.drewN (Below.refl _ _) m
        have hce := hcell _ hbw
        have hce2 := hcell2 _ hbw
        by_cases hs : sa[k] = sb[k]
        · have HT : Hid (sa.take (k + 1) = sb.take (k + 1)) := take_succ_eq hj hj2 htk hs
          rw [← hs] at hce2
          clear hcell hcell2 hbw hwr htk hs
          generalize sa[k] = sj at *
          go_wp2_with fail
          go_quiet (first | skip)
          go_wp2
          go_roundw
          case rel => exact ⟨k + 1, m + nq, by omega, by go_num, HT, by rw [Hid, HW.out, World.drewN_drewN]⟩
          case measure => simp [intOf]; omega
        · have HE : Hid (decide (sa = sb) = false) := by
            rw [Hid, decide_eq_false_iff_not]
            intro e; subst e; exact hs rfl
          clear hcell hcell2 hbw hwr htk
          generalize sa[k] = sj at *
          generalize sb[k] = sk at *
          have hne : (sj.toList == sk.toList) = false := by
            rw [beq_eq_false_iff_ne]
            intro e; exact hs (toList_inj e)
          clear hs
          go_wp2_with fail
          go_quiet (first | skip)
          go_wp2
          go_ret
          exact ⟨by rw [HE.out]; rfl, m + nq, by rw [HW.out, World.drewN_drewN]⟩
      · have HE : Hid (decide (sa = sb) = true) := by
          rw [Hid, decide_eq_true_eq]
          have := htk
          unfold Hid at this
          rwa [List.take_of_length_le (by have := HN.out; omega), List.take_of_length_le (by have := HN2.out; omega)] at this
        clear htk
        go_wp2
        go_ret
        exact ⟨by rw [HE.out]; rfl, m, HW.out⟩
  · have HE : Hid (decide (sa = sb) = false) := by
      rw [Hid, decide_eq_false_iff_not]
      intro e; subst e
      have h1 := HN.out; have h2 := HN2.out; omega
    have hnn' : ¬ (n : Int) = n2 := by omega
    go_enter Tryd.func46, Tryd.ntmps46
    go_wp2
    go_ret
    exact ⟨by rw [HE.out]; rfl, 0, rfl⟩
end Go.Proofs.YtnhnaallalgefaaDoor
