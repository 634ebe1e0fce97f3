/- Merged texts. The walk of bitvec.Make, all true. Conditions: as each theorem says. The walk of bitvec.Fill. Conditions: as each theorem says. The walk of scan.upto. Conditions: as each theorem says. -/
import Derived.Test.YtdddmehchfnppaaGreatDoorMg11
import Derived.Test.YtdddmehchfnppaaGreatDoorMg12
import Derived.Test.YtdddmehchfnppaaGreatDoorMg15
import Derived.Test.YtdddmehchfnppaaGreatDoorMg17
import Derived.Test.YtdddmehchfnppaaGreatDoorMg06
namespace Go.Proofs.YtdddmehchfnppaaGreatDoor
open Go Go.RowKit Go.Proofs Fl

set_option maxRecDepth 100000 in
set_option maxHeartbeats 1000000 in
/-- so many true ones -/
theorem make_true (n : Nat) (hn : n ≤ 1048576) (w : World) :
    Calls Tryz.prog 102 #[.int .i64 (n : Int), .bool true] w fun e w' => ∃ g, e = .returned (.agg #[.slice (some ⟨g, 0, none⟩) ((n + 63) / 64) ((n + 63) / 64), .int .i64 (n : Int)]) ∧ RowU w' w.heap.size g ((n + 63) / 64) (packW (fun _ => true) n) ∧ Below w.heap.size w w' := by
  obtain ⟨M, hM⟩ : ∃ M, M = (n + 63) / 64 := ⟨_, rfl⟩
  have hMi : ((n : Int) + 63) / 64 = (M : Int) := by omega
  have hmm : max (0 : Int) (min (n : Int) 1048576) = (n : Int) := by omega
  have hmk := run_make_row' (P := Tryz.prog) 24 124 (.int .u64 0) 8 Tryz.underlying24 info_u64 rfl .i64 .i64 M (by omega) (by omega)
  rw [← hM]
  have HM := Lib.hid hM
  have hMb : M ≤ 16384 := by omega
  clear hM
  have hs1 : (w.alloc (.cells bcells 26)).heap.size = w.heap.size + 1 := by simp
  have hs2 : ((w.alloc (.cells bcells 26)).alloc (.cells (madeCells #[.int .u64 0] M) 124)).heap.size = w.heap.size + 2 := by simp
  have HR0 : Hid (RowU (((w.alloc (.cells bcells 26)).alloc (.cells (madeCells #[.int .u64 0] M) 124)).alloc (.cells #[.slice (some ⟨w.heap.size + 1, 0, none⟩) M M, .int .i64 (n : Int)] 26)) (w.heap.size + 1) (w.heap.size + 1) M (fun _ => 0)) := by
    have h := (RowU.made (w.alloc (.cells bcells 26)) (w.heap.size + 1) (by rw [hs1]; omega) M (by unfold maxLen; omega)).below (bel1 _ (.cells #[.slice (some ⟨w.heap.size + 1, 0, none⟩) M M, .int .i64 (n : Int)] 26))
    rw [hs1] at h
    exact h
  have HB0 := Lib.hid (bel3 w (.cells bcells 26) (.cells (madeCells #[.int .u64 0] M) 124) (.cells #[.slice (some ⟨w.heap.size + 1, 0, none⟩) M M, .int .i64 (n : Int)] 26))
  have HK10 := Lib.hid (block_up (bel2 (w.alloc (.cells bcells 26)) (.cells (madeCells #[.int .u64 0] M) 124) (.cells #[.slice (some ⟨w.heap.size + 1, 0, none⟩) M M, .int .i64 (n : Int)] 26)))
  have HK20 : Hid ((((w.alloc (.cells bcells 26)).alloc (.cells (madeCells #[.int .u64 0] M) 124)).alloc (.cells #[.slice (some ⟨w.heap.size + 1, 0, none⟩) M M, .int .i64 (n : Int)] 26)).heap[w.heap.size + 2]? = some (.cells #[.slice (some ⟨w.heap.size + 1, 0, none⟩) M M, .int .i64 (n : Int)] 26)) := by
    have h := heap_alloc_new ((w.alloc (.cells bcells 26)).alloc (.cells (madeCells #[.int .u64 0] M) 124)) (.cells #[.slice (some ⟨w.heap.size + 1, 0, none⟩) M M, .int .i64 (n : Int)] 26)
    rw [hs2] at h
    exact h
  clear hs1 hs2
  go_enter Tryz.func102, Tryz.ntmps102
  go_wp2_with fail
  go_loopw [20] (fun ii wr => ∃ i : Nat, i ≤ M ∧ ii = .int .i64 i ∧ RowU wr (w.heap.size + 1) (w.heap.size + 1) M (fun j => if j < i then 18446744073709551615 else 0) ∧ Below w.heap.size w wr ∧ wr.heap[w.heap.size]? = some (.cells bcells 26) ∧ wr.heap[w.heap.size + 2]? = some (.cells #[.slice (some ⟨w.heap.size + 1, 0, none⟩) M M, .int .i64 (n : Int)] 26)) (fun ii _ => M - (intOf ii).toNat)
  case atStart => exact ⟨0, Nat.zero_le _, rfl, HR0.out.same (fun j _ => by rw [if_neg (Nat.not_lt_zero _)]), HB0.out, HK10.out, HK20.out⟩
  case round =>
    clear HR0 HB0 HK10 HK20 hmk
    obtain ⟨i, hi, rfl, hrow, hbl, hk1, hk2⟩ := hrel
    have HROW := Lib.hid hrow
    have HBL := Lib.hid hbl
    have HK1 := Lib.hid hk1
    have HK2 := Lib.hid hk2
    clear hrow hbl hk1 hk2
    by_cases hlt : i < M
    · obtain ⟨hv0, hv1, hvf⟩ := pair_of HK2.out
      have hcw := HROW.out.cell hlt
      have hfw := HROW.out.frozen i
      have HPUT := Lib.hid (HROW.out.put hlt 18446744073709551615 (F' := fun j => if j < i + 1 then 18446744073709551615 else 0) (fun j _ => by
        by_cases e : j = i
        · rw [if_pos e, if_pos (by omega)]
        · rw [if_neg e]
          by_cases h2 : j < i
          · rw [if_pos h2, if_pos (by omega)]
          · rw [if_neg h2, if_neg (by omega)]))
      have HB3 := Lib.hid (HBL.out.setCell (p := ⟨w.heap.size + 1, i, none⟩) (by show _ ≤ w.heap.size + 1; omega) (.int .u64 18446744073709551615))
      have HK13 := Lib.hid ((Below.heap_setCell wr ⟨w.heap.size + 1, i, none⟩ (.int .u64 18446744073709551615) w.heap.size (by show _ ≠ w.heap.size + 1; omega)).trans HK1.out)
      have HK23 := Lib.hid ((Below.heap_setCell wr ⟨w.heap.size + 1, i, none⟩ (.int .u64 18446744073709551615) (w.heap.size + 2) (by show _ ≠ w.heap.size + 1; omega)).trans HK2.out)
      go_wp2
      exact ⟨⟨i + 1, by omega, by go_num, HPUT.out, HB3.out, HK13.out, HK23.out⟩, by simp [intOf]; omega⟩
    · obtain rfl : i = M := by omega
      have HT := Lib.hid (trim_any (w.heap.size + 1) (w.heap.size + 1) n i _ wr hn HM.out HROW.out (fun j hj => by
        show (if j < i then _ else _) < _
        rw [if_pos hj]
        decide))
      have HF : Hid (∀ j, j < i → trimF n i (fun j => if j < i then 18446744073709551615 else 0) j = packW (fun _ => true) n j) := by
        refine trimF_pack n i _ (fun _ => true) HM.out (fun j hj => ?_) (fun j hj m hm hin => ?_)
        · show (if j < i then _ else _) < _
          rw [if_pos hj]
          decide
        · show Nat.testBit (if j < i then _ else _) m = _
          rw [if_pos hj]
          have := not_bit 0 m hm (by decide)
          rw [show 18446744073709551615 - 0 = 18446744073709551615 from rfl] at this
          rw [this]
          simp
      obtain ⟨hv0, hv1, hvf⟩ := pair_of HK2.out
      go_wp2_with fail
      refine HT.out.mono ?_
      rintro e w5 ⟨rfl, hr5, hb5, ho5⟩
      have HR5 := Lib.hid (hr5.same (F' := packW (fun _ => true) n) (fun j hj => (HF.out j hj).symm))
      have HB5 := Lib.hid (HBL.out.trans (hb5.mono (by omega)))
      have HK5 := Lib.hid (show w5.heap[w.heap.size]? = some (.cells bcells 26) by rw [hb5.block _ (by omega)]; exact HK1.out)
      have hVl : w.heap.size + 2 < wr.heap.size := lt_of_block HK2.out
      have HKV := Lib.hid (show w5.heap[w.heap.size + 2]? = some (.cells #[.slice (some ⟨w.heap.size + 1, 0, none⟩) i i, .int .i64 (n : Int)] 26) by rw [ho5 (w.heap.size + 2) hVl (by omega)]; exact HK2.out)
      clear hr5 hb5 ho5 hv0 hv1 hvf
      obtain ⟨hv0, hv1, hvf⟩ := pair_of HKV.out
      obtain ⟨hk0, hk1, hkf⟩ := pair_of HK5.out
      go_wp2
      refine bodyPost_ret (ret_bits rfl _ _ _ rfl (set2_block HK5.out _ _)) rfl ⟨w.heap.size + 1, rfl, ?_, below_set2 HB5.out (Nat.le_refl _) _ _⟩
      exact own_set2 (HR5.out.lower (by omega)) (by show some (w.heap.size + 1) ≠ _; intro e; injection e; omega) _ _
theorem packW_false (n j : Nat) : packW (fun _ => false) n j = 0 := by
  apply Nat.eq_of_testBit_eq
  intro m
  rw [Nat.zero_testBit]
  by_cases hm : m < 64
  · rw [packW_bit _ _ _ _ hm]; simp
  · exact packW_high _ _ _ _ hm
/-- so many that are all alike -/
theorem make_any (n : Nat) (t : Bool) (hn : n ≤ 1048576) (w : World) :
    Calls Tryz.prog 102 #[.int .i64 (n : Int), .bool t] w fun e w' => ∃ g, e = .returned (.agg #[.slice (some ⟨g, 0, none⟩) ((n + 63) / 64) ((n + 63) / 64), .int .i64 (n : Int)]) ∧ RowU w' w.heap.size g ((n + 63) / 64) (packW (fun _ => t) n) ∧ Below w.heap.size w w' := by
  cases t
  · refine (make_false n hn w).mono ?_
    rintro e w' ⟨g, rfl, hr, hb⟩
    exact ⟨g, rfl, hr.same fun j _ => packW_false n j, hb⟩
  · exact make_true n hn w
end Go.Proofs.YtdddmehchfnppaaGreatDoor
namespace Go.Proofs.YtdddmehchfnppaaGreatDoor
open Go Go.RowKit Go.Proofs Fl

/-- true from place z on -/
def fromZ (z : Nat) : Nat → Bool := fun j => decide (z ≤ j)
theorem fill_lo (n z i : Nat) (h : i < z / 64) : packW (fromZ z) n i = 0 := by
  apply Nat.eq_of_testBit_eq
  intro m
  rw [Nat.zero_testBit]
  by_cases hm : m < 64
  · rw [packW_bit _ _ _ _ hm]
    have : fromZ z (64 * i + m) = false := decide_eq_false (by omega)
    rw [this]; simp
  · exact packW_high _ _ _ _ hm
theorem fill_hi (n z i : Nat) (h : z / 64 < i) : packW (fromZ z) n i = packW (fun _ => true) n i := by
  apply Nat.eq_of_testBit_eq
  intro m
  by_cases hm : m < 64
  · rw [packW_bit _ _ _ _ hm, packW_bit _ _ _ _ hm]
    have : fromZ z (64 * i + m) = true := decide_eq_true (by omega)
    rw [this]
  · rw [packW_high _ _ _ _ hm, packW_high _ _ _ _ hm]
theorem fill_mid (n z : Nat) : packW (fun _ => true) n (z / 64) &&& (18446744073709551615 - (2 ^ (z % 64) - 1)) = packW (fromZ z) n (z / 64) := by
  have hp : 2 ^ (z % 64) - 1 < 18446744073709551616 := by
    have : 2 ^ (z % 64) ≤ 2 ^ 63 := Nat.pow_le_pow_right (by decide) (by omega)
    omega
  apply Nat.eq_of_testBit_eq
  intro m
  rw [Nat.testBit_and]
  by_cases hm : m < 64
  · rw [packW_bit _ _ _ _ hm, packW_bit _ _ _ _ hm, not_bit _ m hm hp, Nat.testBit_two_pow_sub_one]
    have : fromZ z (64 * (z / 64) + m) = !decide (m < z % 64) := by
      unfold fromZ
      by_cases h : m < z % 64
      · rw [decide_eq_true h, decide_eq_false (by omega)]; rfl
      · rw [decide_eq_false h, decide_eq_true (by omega)]; rfl
    rw [this]
    simp
  · rw [packW_high _ _ _ _ hm, packW_high _ _ _ _ hm, Bool.false_and]

set_option maxRecDepth 100000 in
set_option maxHeartbeats 2000000 in
theorem fill_any (v : Value) (n : Nat) (l : Nat → Bool) (w : World) (hn : n ≤ 1048576) (hb : BitsIn w v n l) (ht : TzTab w) :
    Calls Tryz.prog 108 #[v] w fun e w' => ∃ z g, FirstIs l n z ∧ e = .returned (.agg #[.slice (some ⟨g, 0, none⟩) ((n + 63) / 64) ((n + 63) / 64), .int .i64 (n : Int)]) ∧ RowU w' w.heap.size g ((n + 63) / 64) (packW (fromZ z) n) ∧ Below w.heap.size w w' := by
  have hbin := hb
  obtain ⟨b, o, c, rfl, _⟩ := hb
  obtain ⟨M, hM⟩ : ∃ M, M = (n + 63) / 64 := ⟨_, rfl⟩
  have HB0 := Lib.hid (bel2 w (.cells #[.slice (some ⟨b, o, none⟩) M c, .int .i64 (n : Int)] 26) (.cells bcells 26))
  have HK0 := Lib.hid (block_up (bel1 (w.alloc (.cells #[.slice (some ⟨b, o, none⟩) M c, .int .i64 (n : Int)] 26)) (.cells bcells 26)))
  have HK1 : Hid (((w.alloc (.cells #[.slice (some ⟨b, o, none⟩) M c, .int .i64 (n : Int)] 26)).alloc (.cells bcells 26)).heap[w.heap.size + 1]? = some (.cells bcells 26)) := by
    have h := heap_alloc_new (w.alloc (.cells #[.slice (some ⟨b, o, none⟩) M c, .int .i64 (n : Int)] 26)) (.cells bcells 26)
    have hs : (w.alloc (.cells #[.slice (some ⟨b, o, none⟩) M c, .int .i64 (n : Int)] 26)).heap.size = w.heap.size + 1 := by simp
    rw [hs] at h
    exact h
  have HF := Lib.hid (first_any _ n l _ hn (hbin.below HB0.out) (ht.below HB0.out))
  have HM := Lib.hid hM
  have HMK := Lib.hid (fun W => make_any n true hn W)
  have hMb : M ≤ 16384 := by omega
  rw [← hM] at HF HMK ⊢
  clear hbin ht hM
  go_enter Tryz.func108, Tryz.ntmps108
  obtain ⟨p0, p1, pf⟩ := pair_of HK0.out
  go_wp2_with fail
  refine HF.out.mono ?_
  rintro e w2 ⟨z, rfl, hz, hb2⟩
  have HZ := Lib.hid hz
  have hzn : z ≤ n := hz.1
  have hs2 : w.heap.size + 1 < w2.heap.size := Nat.lt_of_lt_of_le (lt_of_block HK1.out) hb2.size
  have HB2 := Lib.hid (bel_both HB0.out hb2)
  have HK02 := Lib.hid (show w2.heap[w.heap.size]? = some (.cells #[.slice (some ⟨b, o, none⟩) M c, .int .i64 (n : Int)] 26) by rw [hb2.block _ (lt_of_block HK0.out)]; exact HK0.out)
  have HK12 := Lib.hid (show w2.heap[w.heap.size + 1]? = some (.cells bcells 26) by rw [hb2.block _ (lt_of_block HK1.out)]; exact HK1.out)
  clear hz hb2 p0 p1 pf HB0 HK0 HK1 HF
  obtain ⟨p0, p1, pf⟩ := pair_of HK02.out
  go_wp2_with fail
  refine (HMK.out _).mono ?_
  rintro e w3 ⟨g, rfl, hr3, hb3⟩
  have hs3 : w2.heap.size ≤ w3.heap.size := hb3.size
  have hlow := hr3.low
  obtain ⟨V, hV⟩ : ∃ V, V = w3.heap.size := ⟨_, rfl⟩
  have hgV : g < V := by rw [hV]; exact hlow.2
  have hg2 : w.heap.size + 2 ≤ g := by omega
  have HR3 := Lib.hid ((hr3.lower (show w.heap.size + 2 ≤ w2.heap.size from hs2)).below (bel1 w3 (.cells #[.slice (some ⟨g, 0, none⟩) M M, .int .i64 (n : Int)] 26)))
  have HB3 := Lib.hid (bel_both (bel_both HB2.out hb3) (bel1 w3 (.cells #[.slice (some ⟨g, 0, none⟩) M M, .int .i64 (n : Int)] 26)))
  have HK13 := Lib.hid (show (w3.alloc (.cells #[.slice (some ⟨g, 0, none⟩) M M, .int .i64 (n : Int)] 26)).heap[w.heap.size + 1]? = some (.cells bcells 26) by rw [Below.heap_alloc _ _ _ (by omega), hb3.block _ hs2]; exact HK12.out)
  have HV3 := Lib.hid (heap_alloc_new w3 (.cells #[.slice (some ⟨g, 0, none⟩) M M, .int .i64 (n : Int)] 26))
  rw [← hV] at HV3
  clear hr3 hb3 p0 p1 pf HB2 HK02 HK12 hlow hs3 hs2 HMK
  obtain ⟨p0, p1, pf⟩ := pair_of HV3.out
  obtain ⟨Q, hQ⟩ : ∃ Q, Q = z / 64 := ⟨_, rfl⟩
  obtain ⟨r, hr⟩ : ∃ r, r = z % 64 := ⟨_, rfl⟩
  obtain ⟨p, ep⟩ : ∃ p, p = 2 ^ r - 1 := ⟨_, rfl⟩
  have h63 := and63 z (by omega)
  rw [← hr] at h63
  have fQ : (z : Int) / 64 = (Q : Int) := by omega
  have hr64 : r < 64 := by omega
  have hp2 : 2 ^ r ≤ 2 ^ 63 := Nat.pow_le_pow_right (by decide) (by omega)
  have hp1 : 1 ≤ 2 ^ r := Nat.one_le_two_pow
  have hpp : p + 1 ≤ 9223372036854775808 := by omega
  have hpw : IntKind.u64.wrap ((2 : Int) ^ r) = ((p + 1 : Nat) : Int) := by
    have e : ((2 : Int) ^ r) = ((2 ^ r : Nat) : Int) := by rw [Int.natCast_pow]; rfl
    rw [e, wrap_u64_nat _ (by omega)]
    omega
  have HMID : Hid (packW (fun _ => true) n Q &&& (18446744073709551615 - p) = packW (fromZ z) n Q) := by
    have := fill_mid n z
    rw [← hQ, ← hr, ← ep] at this
    exact this
  have HLO : Hid (∀ i, i < Q → packW (fromZ z) n i = 0) := fun i hi => fill_lo n z i (by omega)
  have HHI : Hid (∀ i, Q < i → packW (fromZ z) n i = packW (fun _ => true) n i) := fun i hi => fill_hi n z i (by omega)
  clear hQ hr ep hp2 hp1
  go_wp2_with fail
  rw [← hV]
  clear hV
  go_loopw [14] (fun ii wr => ∃ i : Nat, i ≤ M ∧ ii = .int .i64 i ∧ RowU wr (w.heap.size + 2) g M (fun j => if j < i then packW (fromZ z) n j else packW (fun _ => true) n j) ∧ Below w.heap.size w wr ∧ wr.heap[w.heap.size + 1]? = some (.cells bcells 26) ∧ wr.heap[V]? = some (.cells #[.slice (some ⟨g, 0, none⟩) M M, .int .i64 (n : Int)] 26)) (fun ii _ => M - (intOf ii).toNat)
  case atStart => exact ⟨0, Nat.zero_le _, rfl, HR3.out.same (fun j _ => by rw [if_neg (Nat.not_lt_zero _)]), HB3.out, HK13.out, HV3.out⟩
  case round =>
    clear HR3 HB3 HK13 HV3 p0 p1 pf
    obtain ⟨i, hi, rfl, hrow, hbl, hk1, hk2⟩ := hrel
    have HROW := Lib.hid hrow
    have HBL := Lib.hid hbl
    have HK1 := Lib.hid hk1
    have HK2 := Lib.hid hk2
    clear hrow hbl hk1 hk2
    obtain ⟨hv0, hv1, hvf⟩ := pair_of HK2.out
    by_cases hlt : i < M
    · have hcw := HROW.out.cell hlt
      have hfw := HROW.out.frozen i
      rw [if_neg (Nat.lt_irrefl i)] at hcw
      have HPUT : Hid (∀ y : Nat, y = packW (fromZ z) n i → RowU (wr.setCell ⟨g, i, none⟩ (.int .u64 (y : Nat))) (w.heap.size + 2) g M (fun j => if j < i + 1 then packW (fromZ z) n j else packW (fun _ => true) n j)) := fun y hy =>
        HROW.out.put hlt y (fun j _ => by
          by_cases e : j = i
          · rw [if_pos e, if_pos (by omega), e, hy]
          · rw [if_neg e]
            by_cases h2 : j < i
            · rw [if_pos h2, if_pos (by omega)]
            · rw [if_neg h2, if_neg (by omega)])
      have HB3 := Lib.hid (fun u => HBL.out.setCell (p := ⟨g, i, none⟩) (by show _ ≤ g; omega) u)
      have HK13 := Lib.hid (fun u => (Below.heap_setCell wr ⟨g, i, none⟩ u (w.heap.size + 1) (by show _ ≠ g; omega)).trans HK1.out)
      have HK23 := Lib.hid (fun u => (Below.heap_setCell wr ⟨g, i, none⟩ u V (by show _ ≠ g; omega)).trans HK2.out)
      by_cases h1 : i < Q
      · have HP1 := Lib.hid (HPUT.out 0 (HLO.out i h1).symm)
        go_wp2
        go_roundw
        case rel => exact ⟨i + 1, by omega, by go_num, HP1.out, HB3.out _, HK13.out _, HK23.out _⟩
        case measure => simp [intOf]; omega
      · by_cases h2 : i = Q
        · subst h2
          have HP1 := Lib.hid (HPUT.out _ HMID.out)
          have hxlt := packW_lt (fun _ => true) n i
          have han := u64_andNot_nat (packW (fun _ => true) n i) p hxlt (by omega)
          generalize packW (fun _ => true) n i = x at *
          generalize x &&& (18446744073709551615 - p) = y at *
          clear HMID HLO HHI HPUT
          go_wp2
          go_roundw
          case rel => exact ⟨i + 1, by omega, by go_num, HP1.out, HB3.out _, HK13.out _, HK23.out _⟩
          case measure => simp [intOf]; omega
        · have HR1 := Lib.hid (HROW.out.same (F' := fun j => if j < i + 1 then packW (fromZ z) n j else packW (fun _ => true) n j) (fun j _ => by
            by_cases e : j = i
            · rw [if_pos (by omega), if_neg (by omega), e]; exact HHI.out i (by omega)
            · by_cases h3 : j < i
              · rw [if_pos h3, if_pos (by omega)]
              · rw [if_neg h3, if_neg (by omega)]))
          clear HPUT HMID HLO HHI
          go_wp2
          go_roundw
          case rel => exact ⟨i + 1, by omega, by go_num, HR1.out, HBL.out, HK1.out, HK2.out⟩
          case measure => simp [intOf]; omega
    · obtain rfl : i = M := by omega
      have HR1 := Lib.hid (HROW.out.same (F' := packW (fromZ z) n) (fun j hj => by rw [if_pos hj]))
      obtain ⟨hk0, hk1, hkf⟩ := pair_of HK1.out
      go_wp2
      refine bodyPost_ret (ret_bits rfl _ _ _ rfl (set2_block HK1.out _ _)) rfl ⟨z, g, HZ.out, rfl, ?_, below_set2 HBL.out (Nat.le_succ _) _ _⟩
      exact own_set2 (HR1.out.lower (by omega)) (by show some g ≠ _; intro e; injection e; omega) _ _
end Go.Proofs.YtdddmehchfnppaaGreatDoor
namespace Go.Proofs.YtdddmehchfnppaaGreatDoor
open Go Go.RowKit Go.Proofs Fl

set_option maxRecDepth 100000 in
set_option maxHeartbeats 2000000 in
theorem upto_any {pw : Nat → Nat → Nat × Int} (hp : PowIs pw) (q : Int) (hq : knownB q = true) (kk : Int) (b : Value) (bn : Int) (s i f c x : Value) (T A n step : Nat) (X F : Nat → Nat) (w : World)
    (hn : n ≤ 1000) (hA : A ≤ 1000000) (hT : T ≤ 1000000) (hidx : ∀ j, j ≤ n → A + j * step < T) (hX : ∀ j, j ≤ n → F (A + j * step) = X j)
    (hN : ∀ W, Below w.heap.size w W → NumV (vecV kk b bn s i f c x) kk T F W) :
    Calls Tryz.prog 74 #[.int .i64 q, vecV kk b bn s i f c x, .int .i64 (A : Int), .int .i64 (n : Int), .int .i64 (step : Int)] w (RowOut (rowR (oneP pw q) X (n + 1)) w) := by
  have HNV := Lib.hid hN
  have HIX := Lib.hid hidx
  have HX := Lib.hid hX
  have HTF := Lib.hid ((hN w (Below.refl _ _)).tf)
  have HONE := Lib.hid (fun a b ha hb W => one_any hp q hq a b ha hb W)
  have HP := Lib.hid hp
  obtain ⟨Q, eQ⟩ : ∃ Q, Q = n * step := ⟨_, rfl⟩
  obtain ⟨I, eI⟩ : ∃ I, I = A + Q := ⟨_, rfl⟩
  have hI : I < T := by rw [eI, eQ]; exact hidx n (Nat.le_refl _)
  have f4 : (n : Int) * (step : Int) = (Q : Int) := by rw [eQ]; push_cast; rfl
  have f5 : (A : Int) + (Q : Int) = (I : Int) := by rw [eI]; push_cast; rfl
  have hQ : Q ≤ 1000000 := by omega
  have HX0 : Hid (stepsR (oneP pw q) X (n + 1) 0 = some (F I)) := by
    show some _ = _
    rw [eI, eQ, hX n (Nat.le_refl _)]; rfl
  have HB0 := Lib.hid (bel1 w (.cells #[.int .i64 kk, b, .int .i64 bn, s, i, f, c, x] 32))
  have HST := Lib.hid (boxed_new w 32 kk b bn s i f c x)
  have HNUM := Lib.hid ((HNV.out _ HB0.out).num I hI)
  have HYI := Lib.hid (HTF.out I hI)
  clear hp hq hidx hX hN eQ eI
  go_enter Tryz.func74, Tryz.ntmps74
  obtain ⟨h0, h1, h2, h3, h4, h5, h6, h7⟩ := HST.out
  go_wp2_with fail
  refine HNUM.out.mono ?_
  rintro e w2 ⟨rfl, hb2'⟩
  have HST2 := Lib.hid (HST.out.below hb2')
  have HB2 := Lib.hid (bel_both HB0.out hb2')
  clear hb2' h0 h1 h2 h3 h4 h5 h6 h7
  generalize F I = y0 at HX0 HYI ⊢
  go_wp2_with fail
  go_loopw [12, 13] (fun xx ii wr => ∃ m y : Nat, m ≤ n ∧ stepsR (oneP pw q) X (n + 1) (n - m) = some y ∧ xx = .float .f64 y ∧ ii = .int .i64 ((m : Int) - 1) ∧ Boxed wr w.heap.size kk b bn s i f c x ∧ Below w.heap.size w wr) (fun _ ii _ => (intOf ii + 1).toNat)
  case atStart => exact ⟨n, y0, Nat.le_refl _, by rw [Nat.sub_self]; exact HX0.out, rfl, rfl, HST2.out, HB2.out⟩
  case round =>
    clear HX0 HNUM f4 f5 hI HST HST2 HB2 HB0 HYI
    obtain ⟨m, y, hm, hsy, rfl, rfl, hst, hbl⟩ := hrel
    have HSY := Lib.hid hsy
    have HST := Lib.hid hst
    have HBL := Lib.hid hbl
    clear hsy hst hbl
    rcases m with _ | j
    · have e0 : ((0 : Nat) : Int) - 1 = -1 := rfl
      rw [e0]
      have HR : Hid (rowR (oneP pw q) X (n + 1) = some y) := HSY.out
      clear e0
      go_wp2
      go_ret2
      exact ⟨by rw [HR.out]; rfl, HBL.out⟩
    · have ej : ((j + 1 : Nat) : Int) - 1 = (j : Int) := by omega
      rw [ej]
      obtain ⟨Q2, eQ2⟩ : ∃ Q2, Q2 = j * step := ⟨_, rfl⟩
      obtain ⟨I2, eI2⟩ : ∃ I2, I2 = A + Q2 := ⟨_, rfl⟩
      have hI2 : I2 < T := by rw [eI2, eQ2]; exact HIX.out j (by omega)
      have f4 : (j : Int) * (step : Int) = (Q2 : Int) := by rw [eQ2]; push_cast; rfl
      have f5 : (A : Int) + (Q2 : Int) = (I2 : Int) := by rw [eI2]; push_cast; rfl
      have hQ2 : Q2 ≤ 1000000 := by omega
      have HNUM := Lib.hid ((HNV.out _ HBL.out).num I2 hI2)
      have HFI := Lib.hid (HTF.out I2 hI2)
      have HXT : ∀ i, i < n + 1 → TF (X i) := fun i hi => by
        rw [← HX.out i (by omega)]; exact HTF.out _ (HIX.out i (by omega))
      have HYT : Hid (TF y) := stepsR_tf HP.out (by omega) HXT (n - (j + 1)) (by omega) y HSY.out
      have HNX : Hid (stepsR (oneP pw q) X (n + 1) (n - j) = if (oneP pw q (F I2) y).2 = 0 then some (oneP pw q (F I2) y).1 else none) := by
        have e1 : n - j = (n - (j + 1)) + 1 := by omega
        show _ = _
        rw [e1]
        show (stepsR _ _ _ _).bind _ = _
        rw [HSY.out]
        have e2 : n + 1 - 2 - (n - (j + 1)) = j := by omega
        show (if _ then some (oneP pw q (X (n + 1 - 2 - (n - (j + 1)))) y).1 else none) = _
        rw [e2]
        have e3 : X j = F I2 := by rw [eI2, eQ2]; exact (HX.out j (by omega)).symm
        rw [e3]
      have hj : j < 1000 := by omega
      have hjm : j ≤ n := by omega
      have hjn : n - j ≤ n + 1 - 1 := by omega
      obtain ⟨h0, h1, h2, h3, h4, h5, h6, h7⟩ := HST.out
      clear eQ2 eI2 ej hm HSY HXT
      go_wp2_with fail
      refine HNUM.out.mono ?_
      rintro e w2 ⟨rfl, hb2'⟩
      have HST2 := Lib.hid (HST.out.below hb2')
      have HBL2 := Lib.hid (bel_both HBL.out hb2')
      have HONE2 := Lib.hid (fun W => HONE.out (F I2) y HFI.out HYT.out W)
      clear hb2' h0 h1 h2 h3 h4 h5 h6 h7 HST HBL HNUM
      have HC := oneP_cases HP.out q HFI.out HYT.out
      generalize oneP pw q (F I2) y = d at HONE2 HNX HC
      generalize F I2 = z at *
      rcases HC with ⟨z2, hz2, rfl⟩ | rfl
      · have HNX2 : Hid (stepsR (oneP pw q) X (n + 1) (n - j) = some z2) := HNX.out
        clear HNX hz2
        go_wp2_with fail
        refine (HONE2.out _).mono ?_
        rintro e w' ⟨rfl, rfl⟩
        go_wp2
        go_roundw
        case rel => exact ⟨j, z2, hjm, HNX2.out, rfl, rfl, HST2.out, HBL2.out⟩
        case measure => simp [intOf]
      · have HR : Hid (rowR (oneP pw q) X (n + 1) = none) := rowR_none hjn HNX.out
        clear HNX
        go_wp2_with fail
        refine (HONE2.out _).mono ?_
        rintro e w' ⟨rfl, rfl⟩
        go_wp2
        go_ret2
        exact ⟨by rw [HR.out]; rfl, HBL2.out⟩
end Go.Proofs.YtdddmehchfnppaaGreatDoor
