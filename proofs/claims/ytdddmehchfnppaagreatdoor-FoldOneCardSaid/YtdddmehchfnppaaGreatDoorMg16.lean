/- Merged texts. The walks of bitvec's trim and Not. Conditions: as each theorem says. The walk of bitvec.Make, all true. Conditions: as each theorem says. -/
import Derived.Test.YtdddmehchfnppaaGreatDoorMg15
namespace Go.Proofs.YtdddmehchfnppaaGreatDoor
open Go Go.RowKit Go.Proofs Fl

/-- the last word of n bits cut off -/
def trimF (n M : Nat) (X : Nat → Nat) (j : Nat) : Nat := if n % 64 ≠ 0 ∧ j + 1 = M then X j &&& (2 ^ (n % 64) - 1) else X j
theorem trimF_pack (n M : Nat) (X : Nat → Nat) (l : Nat → Bool) (hM : M = (n + 63) / 64) (hX : ∀ j, j < M → X j < 18446744073709551616) (h : ∀ j, j < M → ∀ m, m < 64 → 64 * j + m < n → (X j).testBit m = l (64 * j + m)) : ∀ j, j < M → trimF n M X j = packW l n j := by
  intro j hj
  apply Nat.eq_of_testBit_eq
  intro m
  by_cases hm : m < 64
  · rw [packW_bit _ _ _ _ hm]
    unfold trimF
    split
    · rename_i hc
      rw [Nat.testBit_and, Nat.testBit_two_pow_sub_one]
      by_cases hin : 64 * j + m < n
      · have h2 : m < n % 64 := by omega
        rw [h j hj m hm hin]; simp [hin, h2]
      · have h2 : ¬ m < n % 64 := by omega
        simp [hin, h2]
    · rename_i hc
      have hin : 64 * j + m < n := by omega
      rw [h j hj m hm hin]; simp [hin]
  · rw [packW_high _ _ _ _ hm]
    refine Nat.testBit_lt_two_pow (Nat.lt_of_lt_of_le (m := 2 ^ 64) ?_ (Nat.pow_le_pow_right (by decide) (by omega)))
    unfold trimF
    split
    · exact Nat.lt_of_le_of_lt Nat.and_le_left (hX j hj)
    · exact hX j hj

set_option maxHeartbeats 1000000 in
theorem trim_any (B g n M : Nat) (X : Nat → Nat) (w : World) (hn : n ≤ 1048576) (hM : M = (n + 63) / 64) (hr : RowU w B g M X) (hX : ∀ j, j < M → X j < 18446744073709551616) :
    Calls Tryz.prog 112 #[.agg #[.slice (some ⟨g, 0, none⟩) M M, .int .i64 (n : Int)]] w fun e w' => e = .returned (.tuple #[]) ∧ RowU w' B g M (trimF n M X) ∧ Below B w w' ∧ ∀ k, k < w.heap.size → k ≠ g → w'.heap[k]? = w.heap[k]? := by
  have hlow := hr.low
  have h63 := and63 n (by omega)
  have HR := Lib.hid (hr.below (bel1 w (.cells #[.slice (some ⟨g, 0, none⟩) M M, .int .i64 (n : Int)] 26)))
  have HB := Lib.hid ((Below.refl B w).alloc (by omega) (.cells #[.slice (some ⟨g, 0, none⟩) M M, .int .i64 (n : Int)] 26))
  by_cases h0 : n % 64 = 0
  · rw [h0] at h63
    have HS := Lib.hid (HR.out.same (F' := trimF n M X) (fun j _ => by unfold trimF; rw [if_neg (by simp [h0])]))
    clear hr hX hM
    go_enter Tryz.func112, Tryz.ntmps112
    go_wp2
    go_end0
    exact ⟨rfl, HS.out, HB.out, fun k hk _ => Below.heap_alloc _ _ _ hk⟩
  · obtain ⟨k, hk⟩ : ∃ k, M = k + 1 := ⟨M - 1, by omega⟩
    obtain ⟨r, er⟩ : ∃ r, r = n % 64 := ⟨_, rfl⟩
    obtain ⟨p, ep⟩ : ∃ p, p = 2 ^ r - 1 := ⟨_, rfl⟩
    have hp2 : 2 ^ r ≤ 2 ^ 63 := Nat.pow_le_pow_right (by decide) (by omega)
    have hp1 : 1 ≤ 2 ^ r := Nat.one_le_two_pow
    have hpp : p + 1 ≤ 9223372036854775808 := by omega
    have hpw : IntKind.u64.wrap ((2 : Int) ^ r) = ((p + 1 : Nat) : Int) := by
      have e : ((2 : Int) ^ r) = ((2 ^ r : Nat) : Int) := by rw [Int.natCast_pow]; rfl
      rw [e, wrap_u64_nat _ (by omega)]
      omega
    have hxk := hX k (by omega)
    have hand := u64_and_nat (X k) p hxk (by omega)
    have hPUT0 := hr.put (k := k) (by omega) (X k &&& p) (F' := trimF n M X) (fun j _ => by
      unfold trimF
      by_cases e : j = k
      · rw [if_pos ⟨h0, by omega⟩, if_pos e, e, ep, er]
      · rw [if_neg (by omega), if_neg e])
    have hPUT := hPUT0.below (bel1 _ (.cells #[.slice (some ⟨g, 0, none⟩) M M, .int .i64 (n : Int)] 26))
    have HBP := Lib.hid (((Below.refl B w).setCell (p := ⟨g, k, none⟩) hlow.1 (.int .u64 ((X k &&& p : Nat) : Int))).alloc (Nat.le_trans (by omega : B ≤ w.heap.size) ((Below.refl B w).setCell (p := ⟨g, k, none⟩) hlow.1 (.int .u64 ((X k &&& p : Nat) : Int))).size) (.cells #[.slice (some ⟨g, 0, none⟩) M M, .int .i64 (n : Int)] 26))
    have hck := HR.out.cell (k := k) (by omega)
    have hfk := HR.out.frozen k
    have HPUT := Lib.hid hPUT
    have HSZ : Hid (∀ _ : Nat, w.heap.size ≤ (w.setCell ⟨g, k, none⟩ (.int .u64 ((X k &&& p : Nat) : Int))).heap.size) := fun _ => ((Below.refl B w).setCell (p := ⟨g, k, none⟩) hlow.1 _).size
    rw [← er] at h63
    have hr64 : r < 64 := by omega
    have hr0 : r ≠ 0 := by omega
    have hMi : (M : Int) - 1 = (k : Int) := by omega
    have hkM : k < M := by omega
    have hMb : M ≤ 16384 := by omega
    generalize trimF n M X = TX at *
    generalize X k = x at *
    generalize x &&& p = y at *
    clear hr hX hPUT hPUT0 ep er hp2 hp1 h0 hk hM
    go_enter Tryz.func112, Tryz.ntmps112
    go_wp2
    go_end0
    exact ⟨rfl, HPUT.out, HBP.out, fun k' hk' hne => (Below.heap_alloc _ _ _ (Nat.lt_of_lt_of_le hk' (HSZ.out k'))).trans (Below.heap_setCell _ _ _ _ hne)⟩

theorem not_bit (x m : Nat) (hm : m < 64) (hx : x < 18446744073709551616) : (18446744073709551615 - x).testBit m = !x.testBit m := by
  have h := Nat.testBit_two_pow_sub_succ (n := 64) (x := x) hx m
  rw [show 2 ^ 64 - (x + 1) = 18446744073709551615 - x by omega] at h
  rw [h]
  simp [hm]

theorem not_u64 (x : Nat) (hx : x < 18446744073709551616) : bits .xor .u64 (if IntKind.u64.signed = true then -1 else IntKind.u64.max) (x : Int) = ((18446744073709551615 - x : Nat) : Int) := by
  have h := u64_xor_nat 18446744073709551615 x (by decide) hx
  have e : (18446744073709551615 : Nat) ^^^ x = 18446744073709551615 - x := by
    apply Nat.eq_of_testBit_eq
    intro m
    rw [Nat.testBit_xor]
    have h1 := Nat.testBit_two_pow_sub_one 64 m
    rw [show (2 : Nat) ^ 64 - 1 = 18446744073709551615 from rfl] at h1
    rw [h1]
    by_cases hm : m < 64
    · rw [not_bit x m hm hx]; simp [hm]
    · have h2 : x.testBit m = false := Nat.testBit_lt_two_pow (Nat.lt_of_lt_of_le (m := 2 ^ 64) hx (Nat.pow_le_pow_right (by decide) (by omega)))
      have h3 : (18446744073709551615 - x).testBit m = false := Nat.testBit_lt_two_pow (Nat.lt_of_lt_of_le (m := 2 ^ 64) (by omega) (Nat.pow_le_pow_right (by decide) (by omega)))
      rw [h2, h3]; simp [hm]
  rw [e] at h
  exact h

/-- what stands behind 'out := Bits{make(..), n}' -/
def NotMid (w : World) (X : Obj) (n : Int) (M : Nat) (p : Value) (wx : World) : Prop :=
  ∃ V g, p = .pointer (some ⟨V, 0, none⟩) ∧ RowU wx (w.heap.size + 2) g M (fun _ => 0) ∧ Below w.heap.size w wx ∧ wx.heap[w.heap.size]? = some X ∧ wx.heap[w.heap.size + 1]? = some (.cells bcells 26) ∧ wx.heap[V]? = some (.cells #[.slice (some ⟨g, 0, none⟩) M M, .int .i64 n] 26) ∧ V ≠ g ∧ w.heap.size + 2 ≤ V
theorem notMid_a (w : World) (X : Obj) (n : Int) (M : Nat) (hM : M ≤ maxLen) : NotMid w X n M (.pointer (some ⟨w.heap.size + 1 + 1, 0, none⟩)) ((((w.alloc X).alloc (.cells bcells 26)).alloc (.cells #[.slice (some ⟨w.heap.size + 1 + 1 + 1, 0, none⟩) M M, .int .i64 n] 26)).alloc (.cells (madeCells #[.int .u64 0] M) 124)).drew := by
  have hs1 : (w.alloc X).heap.size = w.heap.size + 1 := by simp
  have hs2 : ((w.alloc X).alloc (.cells bcells 26)).heap.size = w.heap.size + 1 + 1 := by simp
  have hs3 : (((w.alloc X).alloc (.cells bcells 26)).alloc (.cells #[.slice (some ⟨w.heap.size + 1 + 1 + 1, 0, none⟩) M M, .int .i64 n] 26)).heap.size = w.heap.size + 1 + 1 + 1 := by simp
  refine ⟨w.heap.size + 1 + 1, w.heap.size + 1 + 1 + 1, rfl, ?_, ?_, ?_, ?_, ?_, by omega, by omega⟩
  · have h := RowU.made (((w.alloc X).alloc (.cells bcells 26)).alloc (.cells #[.slice (some ⟨w.heap.size + 1 + 1 + 1, 0, none⟩) M M, .int .i64 n] 26)) (w.heap.size + 2) (by rw [hs3]; omega) M hM
    rw [hs3] at h
    exact h
  · exact ((bel3 w _ _ _).alloc (by rw [hs3]; omega) _).drew
  · exact block_up ((bel3 (w.alloc X) _ _ _).drew)
  · have h := block_up ((bel2 ((w.alloc X).alloc (.cells bcells 26)) (.cells #[.slice (some ⟨w.heap.size + 1 + 1 + 1, 0, none⟩) M M, .int .i64 n] 26) (.cells (madeCells #[.int .u64 0] M) 124)).drew)
    rw [hs1] at h
    exact h
  · have h := block_up ((bel1 (((w.alloc X).alloc (.cells bcells 26)).alloc (.cells #[.slice (some ⟨w.heap.size + 1 + 1 + 1, 0, none⟩) M M, .int .i64 n] 26)) (.cells (madeCells #[.int .u64 0] M) 124)).drew)
    rw [hs2] at h
    exact h
theorem notMid_b (w : World) (X : Obj) (n : Int) (M : Nat) (hM : M ≤ maxLen) : NotMid w X n M (.pointer (some ⟨w.heap.size + 1 + 1 + 1, 0, none⟩)) ((((w.alloc X).alloc (.cells bcells 26)).alloc (.cells (madeCells #[.int .u64 0] M) 124)).alloc (.cells #[.slice (some ⟨w.heap.size + 1 + 1, 0, none⟩) M M, .int .i64 n] 26)).drew := by
  have hs1 : (w.alloc X).heap.size = w.heap.size + 1 := by simp
  have hs2 : ((w.alloc X).alloc (.cells bcells 26)).heap.size = w.heap.size + 1 + 1 := by simp
  have hs3 : (((w.alloc X).alloc (.cells bcells 26)).alloc (.cells (madeCells #[.int .u64 0] M) 124)).heap.size = w.heap.size + 1 + 1 + 1 := by simp
  refine ⟨w.heap.size + 1 + 1 + 1, w.heap.size + 1 + 1, rfl, ?_, ?_, ?_, ?_, ?_, by omega, by omega⟩
  · have h := (RowU.made ((w.alloc X).alloc (.cells bcells 26)) (w.heap.size + 2) (by rw [hs2]; omega) M hM).below ((bel1 _ (.cells #[.slice (some ⟨w.heap.size + 1 + 1, 0, none⟩) M M, .int .i64 n] 26)).drew)
    rw [hs2] at h
    exact h
  · exact ((bel3 w _ _ _).alloc (by rw [hs3]; omega) _).drew
  · exact block_up ((bel3 (w.alloc X) _ _ _).drew)
  · have h := block_up ((bel2 ((w.alloc X).alloc (.cells bcells 26)) (.cells (madeCells #[.int .u64 0] M) 124) (.cells #[.slice (some ⟨w.heap.size + 1 + 1, 0, none⟩) M M, .int .i64 n] 26)).drew)
    rw [hs1] at h
    exact h
  · have h := heap_alloc_new (((w.alloc X).alloc (.cells bcells 26)).alloc (.cells (madeCells #[.int .u64 0] M) 124)) (.cells #[.slice (some ⟨w.heap.size + 1 + 1, 0, none⟩) M M, .int .i64 n] 26)
    rw [hs3] at h
    exact h

set_option maxRecDepth 100000 in
set_option maxHeartbeats 1000000 in
theorem not_any (b o c n : Nat) (l : Nat → Bool) (w : World) (hn : n ≤ 1048576) (hc : ∀ j, j < (n + 63) / 64 → w.cell? ⟨b, o + j, none⟩ = some (.int .u64 (packW l n j : Nat))) :
    Calls Tryz.prog 109 #[.agg #[.slice (some ⟨b, o, none⟩) ((n + 63) / 64) c, .int .i64 (n : Int)]] w fun e w' => ∃ g, e = .returned (.agg #[.slice (some ⟨g, 0, none⟩) ((n + 63) / 64) ((n + 63) / 64), .int .i64 (n : Int)]) ∧ RowU w' w.heap.size g ((n + 63) / 64) (packW (fun i => !l i) n) ∧ Below w.heap.size w w' := by
  obtain ⟨M, hM⟩ : ∃ M, M = (n + 63) / 64 := ⟨_, rfl⟩
  rw [← hM] at hc ⊢
  have HC := Lib.hid hc
  have HM := Lib.hid hM
  have hMb : M ≤ 16384 := by omega
  have hmk := run_make_row' (P := Tryz.prog) 24 124 (.int .u64 0) 8 Tryz.underlying24 info_u64 rfl .i64 .i64 M (by omega) (by omega)
  clear hc hM
  go_enter Tryz.func109, Tryz.ntmps109
  go_wp2_with fail
  have hma := notMid_a w (.cells #[.slice (some ⟨b, o, none⟩) M c, .int .i64 (n : Int)] 26) (n : Int) M (by unfold maxLen; omega)
  have hmb := notMid_b w (.cells #[.slice (some ⟨b, o, none⟩) M c, .int .i64 (n : Int)] 26) (n : Int) M (by unfold maxLen; omega)
  have HMA := Lib.hid hma
  have HMB := Lib.hid hmb
  clear hma hmb
  go_cut [3] from 6 (fun p wx => NotMid w (.cells #[.slice (some ⟨b, o, none⟩) M c, .int .i64 (n : Int)] 26) (n : Int) M p wx)
  case first =>
    go_region
    all_goals
      go_wp2
      go_meet
      first | exact HMA.out | exact HMB.out
  obtain ⟨V, g, rfl, hr0, hb0, hk0, hk1, hk2, hVg, hV⟩ := hcut
  have HR0 := Lib.hid hr0
  have HB0 := Lib.hid hb0
  have HK0 := Lib.hid hk0
  have HK1 := Lib.hid hk1
  have HK2 := Lib.hid hk2
  have hg2 := hr0.low.1
  clear hr0 hb0 hk0 hk1 hk2 hmk
  obtain ⟨hx0, hx1, _⟩ := pair_of HK0.out
  go_wp2_with fail
  go_loopw [16] (fun ii wr => ∃ i : Nat, i ≤ M ∧ ii = .int .i64 i ∧ RowU wr (w.heap.size + 2) g M (fun j => if j < i then 18446744073709551615 - packW l n j else 0) ∧ Below w.heap.size w wr ∧ wr.heap[w.heap.size]? = some (.cells #[.slice (some ⟨b, o, none⟩) M c, .int .i64 (n : Int)] 26) ∧ wr.heap[w.heap.size + 1]? = some (.cells bcells 26) ∧ wr.heap[V]? = some (.cells #[.slice (some ⟨g, 0, none⟩) M M, .int .i64 (n : Int)] 26)) (fun ii _ => M - (intOf ii).toNat)
  case atStart => exact ⟨0, Nat.zero_le _, rfl, HR0.out.same (fun j _ => by rw [if_neg (Nat.not_lt_zero _)]), HB0.out, HK0.out, HK1.out, HK2.out⟩
  case round =>
    clear HR0 HB0 HK0 HK1 HK2 hx0 hx1
    obtain ⟨i, hi, rfl, hrow, hbl, hk0, hk1, hk2⟩ := hrel
    have HROW := Lib.hid hrow
    have HBL := Lib.hid hbl
    have HK0 := Lib.hid hk0
    have HK1 := Lib.hid hk1
    have HK2 := Lib.hid hk2
    clear hrow hbl hk0 hk1 hk2
    by_cases hlt : i < M
    · have hcell : wr.cell? ⟨b, o + i, none⟩ = some (.int .u64 (packW l n i : Nat)) := by rw [HBL.out.cell (cell_lt (HC.out i hlt))]; exact HC.out i hlt
      have hxlt := packW_lt l n i
      obtain ⟨hv0, hv1, hvf⟩ := pair_of HK2.out
      have hcw := HROW.out.cell hlt
      have hfw := HROW.out.frozen i
      have HPUT := Lib.hid (HROW.out.put hlt (18446744073709551615 - packW l n i) (F' := fun j => if j < i + 1 then 18446744073709551615 - packW l n j else 0) (fun j _ => by
        by_cases e : j = i
        · rw [if_pos e, if_pos (by omega), e]
        · rw [if_neg e]
          by_cases h2 : j < i
          · rw [if_pos h2, if_pos (by omega)]
          · rw [if_neg h2, if_neg (by omega)]))
      have HXOR := Lib.hid (not_u64 (packW l n i) hxlt)
      have HB3 := Lib.hid (HBL.out.setCell (p := ⟨g, i, none⟩) (by show _ ≤ g; omega) (.int .u64 ((18446744073709551615 - packW l n i : Nat) : Int)))
      have HK03 := Lib.hid ((Below.heap_setCell wr ⟨g, i, none⟩ (.int .u64 ((18446744073709551615 - packW l n i : Nat) : Int)) w.heap.size (by show _ ≠ g; omega)).trans HK0.out)
      have HK13 := Lib.hid ((Below.heap_setCell wr ⟨g, i, none⟩ (.int .u64 ((18446744073709551615 - packW l n i : Nat) : Int)) (w.heap.size + 1) (by show _ ≠ g; omega)).trans HK1.out)
      have HK23 := Lib.hid ((Below.heap_setCell wr ⟨g, i, none⟩ (.int .u64 ((18446744073709551615 - packW l n i : Nat) : Int)) V (by show _ ≠ g; exact hVg)).trans HK2.out)
      generalize packW l n i = x at *
      go_wp2
      rw [HXOR.out]
      exact ⟨⟨i + 1, by omega, by go_num, HPUT.out, HB3.out, HK03.out, HK13.out, HK23.out⟩, by simp [intOf]; omega⟩
    · obtain rfl : i = M := by omega
      have HT := Lib.hid (trim_any (w.heap.size + 2) g n i _ wr hn HM.out HROW.out (fun j hj => by
        show (if j < i then _ else _) < _
        rw [if_pos hj]
        omega))
      have HF : Hid (∀ j, j < i → trimF n i (fun j => if j < i then 18446744073709551615 - packW l n j else 0) j = packW (fun i => !l i) n j) := by
        refine trimF_pack n i _ (fun i => !l i) HM.out (fun j hj => ?_) (fun j hj m hm hin => ?_)
        · show (if j < i then _ else _) < _
          rw [if_pos hj]
          omega
        · show Nat.testBit (if j < i then _ else _) m = _
          rw [if_pos hj, not_bit _ m hm (packW_lt l n j), packW_bit l n j m hm]
          simp [hin]
      obtain ⟨hv0, hv1, hvf⟩ := pair_of HK2.out
      go_wp2_with fail
      refine HT.out.mono ?_
      rintro e w5 ⟨rfl, hr5, hb5, ho5⟩
      have HR5 := Lib.hid (hr5.same (F' := packW (fun i => !l i) n) (fun j hj => (HF.out j hj).symm))
      have HB5 := Lib.hid (HBL.out.trans (hb5.mono (by omega)))
      have HK5 := Lib.hid (show w5.heap[w.heap.size + 1]? = some (.cells bcells 26) by rw [hb5.block _ (by omega)]; exact HK1.out)
      have hVl : V < wr.heap.size := lt_of_block HK2.out
      have HKV := Lib.hid (show w5.heap[V]? = some (.cells #[.slice (some ⟨g, 0, none⟩) i i, .int .i64 (n : Int)] 26) by rw [ho5 V hVl hVg]; exact HK2.out)
      clear hr5 hb5 ho5 hv0 hv1 hvf
      obtain ⟨hv0, hv1, hvf⟩ := pair_of HKV.out
      obtain ⟨hk0, hk1, hkf⟩ := pair_of HK5.out
      go_wp2
      refine bodyPost_ret (ret_bits rfl _ _ _ rfl (set2_block HK5.out _ _)) rfl ⟨g, rfl, ?_, below_set2 HB5.out (Nat.le_succ _) _ _⟩
      exact own_set2 (HR5.out.lower (by omega)) (by show some g ≠ _; intro e; injection e; omega) _ _
end Go.Proofs.YtdddmehchfnppaaGreatDoor
namespace Go.Proofs.YtdddmehchfnppaaGreatDoor
open Go Go.RowKit Go.Proofs Fl

set_option maxRecDepth 100000 in
set_option maxHeartbeats 1000000 in
/-- so many true ones -/
theorem make_true (n : Nat) (hn : n ≤ 1048576) (w : World) :
    Calls Tryz.prog 102 #[.int .i64 (n : Int), .bool true] w fun e w' => ∃ g, e = .returned (.agg #[.slice (some ⟨g, 0, none⟩) ((n + 63) / 64) ((n + 63) / 64), .int .i64 (n : Int)]) ∧ RowU w' w.heap.size g ((n + 63) / 64) (packW (fun _ => true) n) ∧ Below w.heap.size w w' := by
  obtain ⟨M, hM⟩ : ∃ M, M = (n + 63) / 64 := ⟨_, rfl⟩
  have hMi : ((n : Int) + 63) / 64 = (M : Int) := by omega
  have hmm : max (0 : Int) (min (n : Int) 1048576) = (n : Int) := by omega
  have hmk := run_make_row' (P := Tryz.prog) 24 124 (.int .u64 0) 8 Tryz.underlying24 info_u64 rfl .i64 .i64 M (by omega) (by omega)
  rw [← hM]
  have HM := Lib.hid hM
  have hMb : M ≤ 16384 := by omega
  clear hM
  have hs1 : (w.alloc (.cells bcells 26)).heap.size = w.heap.size + 1 := by simp
  have hs2 : ((w.alloc (.cells bcells 26)).alloc (.cells (madeCells #[.int .u64 0] M) 124)).heap.size = w.heap.size + 2 := by simp
  have HR0 : Hid (RowU (((w.alloc (.cells bcells 26)).alloc (.cells (madeCells #[.int .u64 0] M) 124)).alloc (.cells #[.slice (some ⟨w.heap.size + 1, 0, none⟩) M M, .int .i64 (n : Int)] 26)) (w.heap.size + 1) (w.heap.size + 1) M (fun _ => 0)) := by
    have h := (RowU.made (w.alloc (.cells bcells 26)) (w.heap.size + 1) (by rw [hs1]; omega) M (by unfold maxLen; omega)).below (bel1 _ (.cells #[.slice (some ⟨w.heap.size + 1, 0, none⟩) M M, .int .i64 (n : Int)] 26))
    rw [hs1] at h
    exact h
  have HB0 := Lib.hid (bel3 w (.cells bcells 26) (.cells (madeCells #[.int .u64 0] M) 124) (.cells #[.slice (some ⟨w.heap.size + 1, 0, none⟩) M M, .int .i64 (n : Int)] 26))
  have HK10 := Lib.hid (block_up (bel2 (w.alloc (.cells bcells 26)) (.cells (madeCells #[.int .u64 0] M) 124) (.cells #[.slice (some ⟨w.heap.size + 1, 0, none⟩) M M, .int .i64 (n : Int)] 26)))
  have HK20 : Hid ((((w.alloc (.cells bcells 26)).alloc (.cells (madeCells #[.int .u64 0] M) 124)).alloc (.cells #[.slice (some ⟨w.heap.size + 1, 0, none⟩) M M, .int .i64 (n : Int)] 26)).heap[w.heap.size + 2]? = some (.cells #[.slice (some ⟨w.heap.size + 1, 0, none⟩) M M, .int .i64 (n : Int)] 26)) := by
    have h := heap_alloc_new ((w.alloc (.cells bcells 26)).alloc (.cells (madeCells #[.int .u64 0] M) 124)) (.cells #[.slice (some ⟨w.heap.size + 1, 0, none⟩) M M, .int .i64 (n : Int)] 26)
    rw [hs2] at h
    exact h
  clear hs1 hs2
  go_enter Tryz.func102, Tryz.ntmps102
  go_wp2_with fail
  go_loopw [20] (fun ii wr => ∃ i : Nat, i ≤ M ∧ ii = .int .i64 i ∧ RowU wr (w.heap.size + 1) (w.heap.size + 1) M (fun j => if j < i then 18446744073709551615 else 0) ∧ Below w.heap.size w wr ∧ wr.heap[w.heap.size]? = some (.cells bcells 26) ∧ wr.heap[w.heap.size + 2]? = some (.cells #[.slice (some ⟨w.heap.size + 1, 0, none⟩) M M, .int .i64 (n : Int)] 26)) (fun ii _ => M - (intOf ii).toNat)
  case atStart => exact ⟨0, Nat.zero_le _, rfl, HR0.out.same (fun j _ => by rw [if_neg (Nat.not_lt_zero _)]), HB0.out, HK10.out, HK20.out⟩
  case round =>
    clear HR0 HB0 HK10 HK20 hmk
    obtain ⟨i, hi, rfl, hrow, hbl, hk1, hk2⟩ := hrel
    have HROW := Lib.hid hrow
    have HBL := Lib.hid hbl
    have HK1 := Lib.hid hk1
    have HK2 := Lib.hid hk2
    clear hrow hbl hk1 hk2
    by_cases hlt : i < M
    · obtain ⟨hv0, hv1, hvf⟩ := pair_of HK2.out
      have hcw := HROW.out.cell hlt
      have hfw := HROW.out.frozen i
      have HPUT := Lib.hid (HROW.out.put hlt 18446744073709551615 (F' := fun j => if j < i + 1 then 18446744073709551615 else 0) (fun j _ => by
        by_cases e : j = i
        · rw [if_pos e, if_pos (by omega)]
        · rw [if_neg e]
          by_cases h2 : j < i
          · rw [if_pos h2, if_pos (by omega)]
          · rw [if_neg h2, if_neg (by omega)]))
      have HB3 := Lib.hid (HBL.out.setCell (p := ⟨w.heap.size + 1, i, none⟩) (by show _ ≤ w.heap.size + 1; omega) (.int .u64 18446744073709551615))
      have HK13 := Lib.hid ((Below.heap_setCell wr ⟨w.heap.size + 1, i, none⟩ (.int .u64 18446744073709551615) w.heap.size (by show _ ≠ w.heap.size + 1; omega)).trans HK1.out)
      have HK23 := Lib.hid ((Below.heap_setCell wr ⟨w.heap.size + 1, i, none⟩ (.int .u64 18446744073709551615) (w.heap.size + 2) (by show _ ≠ w.heap.size + 1; omega)).trans HK2.out)
      go_wp2
      exact ⟨⟨i + 1, by omega, by go_num, HPUT.out, HB3.out, HK13.out, HK23.out⟩, by simp [intOf]; omega⟩
    · obtain rfl : i = M := by omega
      have HT := Lib.hid (trim_any (w.heap.size + 1) (w.heap.size + 1) n i _ wr hn HM.out HROW.out (fun j hj => by
        show (if j < i then _ else _) < _
        rw [if_pos hj]
        decide))
      have HF : Hid (∀ j, j < i → trimF n i (fun j => if j < i then 18446744073709551615 else 0) j = packW (fun _ => true) n j) := by
        refine trimF_pack n i _ (fun _ => true) HM.out (fun j hj => ?_) (fun j hj m hm hin => ?_)
        · show (if j < i then _ else _) < _
          rw [if_pos hj]
          decide
        · show Nat.testBit (if j < i then _ else _) m = _
          rw [if_pos hj]
          have := not_bit 0 m hm (by decide)
          rw [show 18446744073709551615 - 0 = 18446744073709551615 from rfl] at this
          rw [this]
          simp
      obtain ⟨hv0, hv1, hvf⟩ := pair_of HK2.out
      go_wp2_with fail
      refine HT.out.mono ?_
      rintro e w5 ⟨rfl, hr5, hb5, ho5⟩
      have HR5 := Lib.hid (hr5.same (F' := packW (fun _ => true) n) (fun j hj => (HF.out j hj).symm))
      have HB5 := Lib.hid (HBL.out.trans (hb5.mono (by omega)))
      have HK5 := Lib.hid (show w5.heap[w.heap.size]? = some (.cells bcells 26) by rw [hb5.block _ (by omega)]; exact HK1.out)
      have hVl : w.heap.size + 2 < wr.heap.size := lt_of_block HK2.out
      have HKV := Lib.hid (show w5.heap[w.heap.size + 2]? = some (.cells #[.slice (some ⟨w.heap.size + 1, 0, none⟩) i i, .int .i64 (n : Int)] 26) by rw [ho5 (w.heap.size + 2) hVl (by omega)]; exact HK2.out)
      clear hr5 hb5 ho5 hv0 hv1 hvf
      obtain ⟨hv0, hv1, hvf⟩ := pair_of HKV.out
      obtain ⟨hk0, hk1, hkf⟩ := pair_of HK5.out
      go_wp2
      refine bodyPost_ret (ret_bits rfl _ _ _ rfl (set2_block HK5.out _ _)) rfl ⟨w.heap.size + 1, rfl, ?_, below_set2 HB5.out (Nat.le_refl _) _ _⟩
      exact own_set2 (HR5.out.lower (by omega)) (by show some (w.heap.size + 1) ≠ _; intro e; injection e; omega) _ _
theorem packW_false (n j : Nat) : packW (fun _ => false) n j = 0 := by
  apply Nat.eq_of_testBit_eq
  intro m
  rw [Nat.zero_testBit]
  by_cases hm : m < 64
  · rw [packW_bit _ _ _ _ hm]; simp
  · exact packW_high _ _ _ _ hm
/-- so many that are all alike -/
theorem make_any (n : Nat) (t : Bool) (hn : n ≤ 1048576) (w : World) :
    Calls Tryz.prog 102 #[.int .i64 (n : Int), .bool t] w fun e w' => ∃ g, e = .returned (.agg #[.slice (some ⟨g, 0, none⟩) ((n + 63) / 64) ((n + 63) / 64), .int .i64 (n : Int)]) ∧ RowU w' w.heap.size g ((n + 63) / 64) (packW (fun _ => t) n) ∧ Below w.heap.size w w' := by
  cases t
  · refine (make_false n hn w).mono ?_
    rintro e w' ⟨g, rfl, hr, hb⟩
    exact ⟨g, rfl, hr.same fun j _ => packW_false n j, hb⟩
  · exact make_true n hn w
end Go.Proofs.YtdddmehchfnppaaGreatDoor
