/- Merged texts. The walks of bitvec's First, of logic's Any and All. Conditions: the table of math/bits reads as its text lays it, where asked. The walks of logic's Any and All over packed truths, of Count. Conditions: the table of math/bits reads as its text lays it, where asked. The walks of bitvec's Ones and of fold.less. Conditions: the table of math/bits reads as its text lays it. -/
import Derived.Test.YtdddmehchfnppaaGreatDoorMg11
import Derived.Test.YtdddmehchfnppaaGreatDoorMg06
import Derived.Lib.TrailingZeros
namespace Go.Proofs.YtdddmehchfnppaaGreatDoor
open Go Go.RowKit Go.Proofs Fl

theorem tz_core (u p i : Nat) (z : Int) (h0 : ((u : Int) == 0) = false) (w : World)
    (hf : bits .and .u64 (u : Int) (IntKind.u64.wrap (-(u : Int))) = (p : Int)) (hi : IntKind.u64.wrap ((p : Int) * 285870213051353865) / 288230376151711744 = (i : Int)) (h64 : i < 64)
    (hc : w.cell? ⟨0, i, none⟩ = some (.int .u8 z)) (hz : 0 ≤ z) (hz2 : z < 64) :
    Calls Tryz.prog 143 #[.int .u64 u] w fun x w' => x = .returned (.int .i64 z) ∧ w = w' := by
  go_enter Tryz.func143, Tryz.ntmps143
  go_wp2
  go_ret
  exact ⟨rfl, rfl⟩

/-- the table of math/bits, as its text lays it -/
def TzTab (w : World) : Prop := ∀ i, i < 64 → w.cell? ⟨0, i, none⟩ = some (.int .u8 ((Lib.deBruijn64tab.getD i 0 : Nat) : Int))
theorem TzTab.below {w w' : World} (h : TzTab w) (hb : Below w.heap.size w w') : TzTab w' := fun i hi => by rw [hb.cell (cell_lt (h i hi))]; exact h i hi

theorem cast3 (p a b c : Nat) : ((p : Int) * (a : Int)) % (b : Int) / (c : Int) = ((p * a % b / c : Nat) : Int) := by
  rw [Int.natCast_ediv, Int.natCast_emod, Int.natCast_mul]

theorem tz_any (k m : Nat) (h : 2^k * (2 * m + 1) < 18446744073709551616) (w : World) (ht : TzTab w) :
    Calls Tryz.prog 143 #[.int .u64 ((2^k * (2 * m + 1) : Nat) : Int)] w fun x w' => x = .returned (.int .i64 k) ∧ w = w' := by
  have hk : k < 64 := by
    have h1 : 2^k ≤ 2^k * (2 * m + 1) := Nat.le_mul_of_pos_right _ (by omega)
    have h2 : 2^k < 2^64 := by omega
    exact (Nat.pow_lt_pow_iff_right (by omega)).1 h2
  have hn := Lib.and_neg 64 k m (by omega)
  have hp : 0 < 2^k * (2 * m + 1) := Nat.mul_pos (Nat.two_pow_pos k) (by omega)
  obtain ⟨d1, d2⟩ := Lib.deBruijn64_at k hk
  have hp64 : 2^k < 2^64 := Nat.pow_lt_pow_right (by omega) hk
  generalize 2^k * (2 * m + 1) = u at *
  generalize 2^k = p at *
  refine tz_core u p (p * 285870213051353865 % 18446744073709551616 / 288230376151711744) k (beq_eq_false_iff_ne.2 (by omega)) w ?_ ?_ d1 ?_ (by omega) (by omega)
  · rw [IntKind.wrap_u64]
    have e : (-(u : Int)) % 18446744073709551616 = ((2^64 - u : Nat) : Int) := by omega
    rw [e, u64_and_nat u (2^64 - u) h (by omega), hn]
  · rw [IntKind.wrap_u64]; exact cast3 p _ _ _
  · rw [ht _ d1, d2]

/-- a word's lowest bit -/
theorem low_bit (x : Nat) (h0 : x ≠ 0) (hx : x < 18446744073709551616) : ∃ k m, x = 2 ^ k * (2 * m + 1) ∧ k < 64 ∧ x.testBit k = true ∧ ∀ j, j < k → x.testBit j = false := by
  obtain ⟨m, e, hk⟩ := Lib.ctzFrom_spec 64 x (by omega) (by omega)
  refine ⟨Lib.ctzFrom 64 x, m, e, hk, ?_, fun j hj => ?_⟩
  · have : x.testBit (Lib.ctzFrom 64 x) = (2 ^ (Lib.ctzFrom 64 x) * (2 * m + 1)).testBit (Lib.ctzFrom 64 x) := by rw [← e]
    rw [this, Nat.mul_comm, Nat.testBit_mul_two_pow]
    simp
  · have : x.testBit j = (2 ^ (Lib.ctzFrom 64 x) * (2 * m + 1)).testBit j := by rw [← e]
    rw [this, Nat.mul_comm, Nat.testBit_mul_two_pow]
    have : ¬ Lib.ctzFrom 64 x ≤ j := by omega
    simp [this]
theorem tz_walk (x : Nat) (h0 : x ≠ 0) (hx : x < 18446744073709551616) : ∃ k, k < 64 ∧ x.testBit k = true ∧ (∀ j, j < k → x.testBit j = false) ∧ ∀ w, TzTab w → Calls Tryz.prog 143 #[.int .u64 (x : Int)] w fun e w' => e = .returned (.int .i64 k) ∧ w = w' := by
  obtain ⟨k, m, e, hk, h1, h2⟩ := low_bit x h0 hx
  refine ⟨k, hk, h1, h2, fun w ht => ?_⟩
  have := tz_any k m (by rw [← e]; exact hx) w ht
  rw [← e] at this
  exact this

/-- the first place that is true, or the length -/
def FirstIs (l : Nat → Bool) (n z : Nat) : Prop := z ≤ n ∧ (z < n → l z = true) ∧ ∀ j, j < z → l j = false
theorem packW_none {l : Nat → Bool} {n i : Nat} (h : packW l n i = 0) (j : Nat) (h1 : 64 * i ≤ j) (h2 : j < 64 * (i + 1)) (h3 : j < n) : l j = false := by
  have := packW_bit l n i (j - 64 * i) (by omega)
  rw [h, Nat.zero_testBit, show 64 * i + (j - 64 * i) = j by omega] at this
  simpa [h3] using this.symm

set_option maxRecDepth 100000 in
set_option maxHeartbeats 1000000 in
theorem first_any (v : Value) (n : Nat) (l : Nat → Bool) (w : World) (hn : n ≤ 1048576) (hb : BitsIn w v n l) (ht : TzTab w) :
    Calls Tryz.prog 132 #[v] w fun e w' => ∃ z : Nat, e = .returned (.int .i64 z) ∧ FirstIs l n z ∧ Below w.heap.size w w' := by
  obtain ⟨b, o, c, rfl, hc⟩ := hb
  obtain ⟨M, hM⟩ : ∃ M, M = (n + 63) / 64 := ⟨_, rfl⟩
  rw [← hM] at hc ⊢
  have HC := Lib.hid hc
  have HM := Lib.hid hM
  have HT := Lib.hid ht
  have hMb : M ≤ 16384 := by omega
  have HB0 := Lib.hid (bel1 w (.cells #[.slice (some ⟨b, o, none⟩) M c, .int .i64 (n : Int)] 26))
  have HK0 := Lib.hid (heap_alloc_new w (.cells #[.slice (some ⟨b, o, none⟩) M c, .int .i64 (n : Int)] 26))
  clear hc hM ht
  go_enter Tryz.func132, Tryz.ntmps132
  go_wp2_with fail
  go_loopw [8] (fun ii wr => ∃ i : Nat, i ≤ M ∧ ii = .int .i64 i ∧ (∀ j, j < i → packW l n j = 0) ∧ Below w.heap.size w wr ∧ wr.heap[w.heap.size]? = some (.cells #[.slice (some ⟨b, o, none⟩) M c, .int .i64 (n : Int)] 26)) (fun ii _ => M - (intOf ii).toNat)
  case atStart => exact ⟨0, Nat.zero_le _, rfl, fun j hj => absurd hj (Nat.not_lt_zero _), HB0.out, HK0.out⟩
  case round =>
    clear HB0 HK0
    obtain ⟨i, hi, rfl, hz, hbl, hk⟩ := hrel
    have HBL := Lib.hid hbl
    have HZ := Lib.hid hz
    have HK := Lib.hid hk
    clear hbl hz hk
    by_cases hlt : i < M
    · have hcell : wr.cell? ⟨b, o + i, none⟩ = some (.int .u64 (packW l n i : Nat)) := by rw [HBL.out.cell (cell_lt (HC.out i hlt))]; exact HC.out i hlt
      by_cases h0 : packW l n i = 0
      · rw [h0] at hcell
        have HZ2 : Hid (∀ j, j < i + 1 → packW l n j = 0) := fun j hj => by
          by_cases e : j = i
          · rw [e]; exact h0
          · exact HZ.out j (by omega)
        clear h0
        go_wp2
        go_roundw
        case rel => exact ⟨i + 1, by omega, by go_num, HZ2.out, HBL.out, HK.out⟩
        case measure => simp [intOf]; omega
      · obtain ⟨k, hk64, hbit, hlow, htz⟩ := tz_walk (packW l n i) h0 (packW_lt l n i)
        have HTZ := Lib.hid (htz wr (HT.out.below HBL.out))
        have hin : 64 * i + k < n ∧ l (64 * i + k) = true := by
          rw [packW_bit l n i k hk64] at hbit
          simpa using hbit
        have HRES : Hid (FirstIs l n (i * 64 + k)) := by
          refine ⟨by omega, fun _ => by rw [show i * 64 + k = 64 * i + k by omega]; exact hin.2, fun j hj => ?_⟩
          by_cases h1 : j / 64 < i
          · exact packW_none (HZ.out (j / 64) h1) j (by omega) (by omega) (by omega)
          · have h2 := hlow (j - 64 * i) (by omega)
            rw [packW_bit l n i (j - 64 * i) (by omega), show 64 * i + (j - 64 * i) = j by omega] at h2
            have h3 : j < n := by omega
            simpa [h3] using h2
        have hne : ((packW l n i : Nat) : Int) ≠ 0 := by omega
        have hxl := packW_lt l n i
        clear h0 hbit hlow htz hin
        generalize packW l n i = x at *
        go_wp2_with fail
        refine HTZ.out.mono ?_
        rintro e w3 ⟨rfl, rfl⟩
        go_wp2
        go_ret
        exact ⟨i * 64 + k, by push_cast; rfl, HRES.out, HBL.out⟩
    · obtain rfl : i = M := by omega
      obtain ⟨hk0, hk1, hkf⟩ := pair_of HK.out
      go_wp2
      go_ret
      exact ⟨n, rfl, ⟨Nat.le_refl _, fun h => absurd h (Nat.lt_irrefl _), fun j hj => packW_none (HZ.out (j / 64) (by have := HM.out; omega)) j (by omega) (by omega) hj⟩, HBL.out⟩
end Go.Proofs.YtdddmehchfnppaaGreatDoor
namespace Go.Proofs.YtdddmehchfnppaaGreatDoor
open Go Go.RowKit Go.Proofs Fl

theorem count_any (v : Value) (n : Nat) (l : Nat → Bool) (w : World) (hn : n ≤ 1048576) (hb : BitsIn w v n l) :
    Calls Tryz.prog 125 #[v] w fun e w' => e = .returned (.int .i64 (cnt l n : Nat)) ∧ Below w.heap.size w w' := by
  obtain ⟨b, o, c, rfl, hc⟩ := hb
  have h := count_words b o ((n + 63) / 64) c n (packW l n) w (by omega) hc (fun j _ => packW_lt l n j)
  rw [cntW_bits] at h
  exact h
theorem blen_in (v : Value) (n : Nat) (l : Nat → Bool) (w : World) (hb : BitsIn w v n l) :
    Calls Tryz.prog 76 #[v] w fun e w' => e = .returned (.int .i64 n) ∧ Below w.heap.size w w' := by
  obtain ⟨b, o, c, rfl, hc⟩ := hb
  exact blen_any _ _ w

theorem cnt_zero (l : Nat → Bool) (n : Nat) : cnt l n = 0 ↔ ∀ j, j < n → l j = false := by
  induction n with
  | zero => exact ⟨fun _ j hj => absurd hj (Nat.not_lt_zero _), fun _ => rfl⟩
  | succ n ih =>
    unfold cnt
    constructor
    · intro h j hj
      by_cases e : j = n
      · subst e
        cases hl : l j with
        | false => rfl
        | true => rw [hl] at h; simp at h
      · exact ih.1 (by omega) j (by omega)
    · intro h
      rw [ih.2 fun j hj => h j (by omega), h n (by omega)]; rfl
theorem first_cnt {l : Nat → Bool} {n z : Nat} (h : FirstIs l n z) : decide ((z : Int) < (n : Int)) = decide (cnt l n ≠ 0) := by
  rw [decide_eq_decide]
  constructor
  · intro h1 h2
    have h3 : z < n := by omega
    have := (cnt_zero l n).1 h2 z h3
    rw [h.2.1 h3] at this
    cases this
  · intro h1
    apply Classical.byContradiction
    intro h2
    have h3 : z = n := by have := h.1; omega
    exact h1 ((cnt_zero l n).2 fun j hj => h.2.2 j (by omega))

set_option maxRecDepth 100000 in
set_option maxHeartbeats 1000000 in
theorem lall_any (v : Value) (n : Nat) (l : Nat → Bool) (w : World) (hn : n ≤ 1048576) (hb : BitsIn w v n l) :
    Calls Tryz.prog 127 #[v] w fun e w' => e = .returned (.bool (decide (cnt l n = n))) ∧ Below w.heap.size w w' := by
  have HC := Lib.hid (fun W (hw : Below w.heap.size w W) => count_any v n l W hn (hb.below hw))
  have HL := Lib.hid (fun W (hw : Below w.heap.size w W) => blen_in v n l W (hb.below hw))
  obtain ⟨b, o, c, rfl, _⟩ := hb
  have HE : Hid ((((cnt l n : Nat) : Int) == (n : Int)) = decide (cnt l n = n)) := by
    show _ = _
    rw [Bool.eq_iff_iff, beq_iff_eq, decide_eq_true_eq]
    omega
  go_enter Tryz.func127, Tryz.ntmps127
  go_wp2_with fail
  go_region_with (first
    | (go_at_call 125; (refine (HC.out _ ?_).mono ?_); (first | exact (bel1 w _).drew | (refine bel_both (bel1 w _).drew ?_; assumption)); rintro e w1 ⟨rfl, hb1⟩; obtain ⟨hc1, hf1⟩ := bcell2 hb1; have hz1 := hb1.size)
    | (go_at_call 76; go_loud ((refine (HL.out _ ?_).mono ?_); (first | exact (bel1 w _).drew | exact bel_both (bel1 w _).drew hb1); rintro e w2 ⟨rfl, hb2⟩); obtain ⟨hc2, hf2⟩ := bcell2 hb2; have hz2 := hb2.size))
  all_goals
    go_wp2
    go_ret
    exact ⟨by rw [← HE.out]; rfl, bel_both (bel_both (bel1 w _).drew hb1) hb2⟩

set_option maxRecDepth 100000 in
set_option maxHeartbeats 1000000 in
theorem lany_any (v : Value) (n : Nat) (l : Nat → Bool) (w : World) (hn : n ≤ 1048576) (hb : BitsIn w v n l) (ht : TzTab w) :
    Calls Tryz.prog 126 #[v] w fun e w' => e = .returned (.bool (decide (cnt l n ≠ 0))) ∧ Below w.heap.size w w' := by
  have HC := Lib.hid (fun W (hw : Below w.heap.size w W) => first_any v n l W hn (hb.below hw) (ht.below hw))
  have HL := Lib.hid (fun W (hw : Below w.heap.size w W) => blen_in v n l W (hb.below hw))
  obtain ⟨b, o, c, rfl, _⟩ := hb
  go_enter Tryz.func126, Tryz.ntmps126
  go_wp2_with fail
  go_region_with (first
    | (go_at_call 132; go_loud ((refine (HC.out _ ?_).mono ?_); exact (bel1 w _).drew; rintro e w1 ⟨z, rfl, hz, hb1⟩; have HZ := Lib.hid hz; clear hz); obtain ⟨hc1, hf1⟩ := bcell2 hb1; have hz1 := hb1.size)
    | (go_at_call 76; go_loud ((refine (HL.out _ ?_).mono ?_); exact bel_both (bel1 w _).drew hb1; rintro e w2 ⟨rfl, hb2⟩); obtain ⟨hc2, hf2⟩ := bcell2 hb2; have hz2 := hb2.size))
  all_goals
    have HE := Lib.hid (first_cnt HZ.out)
    have HE2 : Hid (decide (z < n) = decide (cnt l n ≠ 0)) := by have h := HE.out; rw [← h]; show _ = _; rw [decide_eq_decide]; omega
    go_wp2
    go_ret
    exact ⟨by first | (rw [← HE.out]; rfl) | (rw [← HE2.out]; rfl), bel_both (bel_both (bel1 w _).drew hb1) hb2⟩
end Go.Proofs.YtdddmehchfnppaaGreatDoor
namespace Go.Proofs.YtdddmehchfnppaaGreatDoor
open Go Go.RowKit Go.Proofs Fl

theorem clear_low (k m : Nat) : (2 ^ k * (2 * m + 1)) &&& (2 ^ k * (2 * m + 1) - 1) = 2 ^ (k + 1) * m := by
  have hp : 0 < 2 ^ k := Nat.two_pow_pos k
  have e1 : 2 ^ k * (2 * m + 1) = 2 ^ (k + 1) * m + 2 ^ k := by rw [Nat.mul_add, Nat.mul_one, ← Nat.mul_assoc, Nat.pow_succ]
  have e2 : 2 ^ k * (2 * m + 1) - 1 = 2 ^ (k + 1) * m + (2 ^ k - 1) := by omega
  have hk1 : 2 ^ k < 2 ^ (k + 1) := Nat.pow_lt_pow_right (by decide) (by omega)
  apply Nat.eq_of_testBit_eq
  intro j
  have e3 : (2 ^ (k + 1) * m).testBit j = (2 ^ (k + 1) * m + 0).testBit j := rfl
  rw [Nat.testBit_and, e2, e1, e3, Nat.testBit_two_pow_mul_add m hk1, Nat.testBit_two_pow_mul_add m (by omega), Nat.testBit_two_pow_mul_add m (by omega)]
  by_cases h : j < k + 1
  · rw [if_pos h, if_pos h, if_pos h, Nat.testBit_two_pow, Nat.testBit_two_pow_sub_one, Nat.zero_testBit]
    by_cases h2 : k = j
    · have : ¬ j < k := by omega
      simp [this]
    · simp [h2]
  · rw [if_neg h, if_neg h, if_neg h, Bool.and_self]

theorem low_step (x : Nat) (h0 : x ≠ 0) (hx : x < 18446744073709551616) : ∃ k, k < 64 ∧ x.testBit k = true ∧ (∀ j, j < k → x.testBit j = false) ∧ (∀ j, (x &&& (x - 1)).testBit j = (decide (k < j) && x.testBit j)) ∧
    ∀ w, TzTab w → Calls Tryz.prog 143 #[.int .u64 (x : Int)] w fun e w' => e = .returned (.int .i64 k) ∧ w = w' := by
  obtain ⟨k, m, e, hk, h1, h2⟩ := low_bit x h0 hx
  refine ⟨k, hk, h1, h2, fun j => ?_, fun w ht => ?_⟩
  · have hc := clear_low k m
    rw [← e] at hc
    rw [hc]
    have e1 : x = 2 ^ (k + 1) * m + 2 ^ k := by rw [e, Nat.mul_add, Nat.mul_one, ← Nat.mul_assoc, Nat.pow_succ]
    have hk1 : 2 ^ k < 2 ^ (k + 1) := Nat.pow_lt_pow_right (by decide) (by omega)
    have hb : x.testBit j = if j < k + 1 then (2 ^ k).testBit j else m.testBit (j - (k + 1)) := by
      have := Nat.testBit_two_pow_mul_add m hk1 j
      rw [← e1] at this
      exact this
    have hb0 := Nat.testBit_two_pow_mul_add m (show 0 < 2 ^ (k + 1) by exact Nat.two_pow_pos _) j
    rw [Nat.add_zero] at hb0
    rw [hb0, hb]
    by_cases h : j < k + 1
    · have : ¬ k < j := by omega
      simp [h, this]
    · have : k < j := by omega
      simp [h, this]
  · have := tz_any k m (by rw [← e]; exact hx) w ht
    rw [← e] at this
    exact this

/-- the true places below p -/
def onesL (f : Nat → Bool) (p : Nat) : List Nat := (List.range p).filter f
theorem onesL_succ (f : Nat → Bool) (p : Nat) : onesL f (p + 1) = if f p then onesL f p ++ [p] else onesL f p := by
  unfold onesL
  rw [List.range_succ, List.filter_append]
  by_cases h : f p = true
  · simp [h]
  · simp [h]
theorem onesL_skip (f : Nat → Bool) (p d : Nat) (h : ∀ j, p ≤ j → j < p + d → f j = false) : onesL f (p + d) = onesL f p := by
  induction d with
  | zero => rfl
  | succ d ih =>
    rw [show p + (d + 1) = (p + d) + 1 by omega, onesL_succ, h (p + d) (by omega) (by omega), ih fun j h1 h2 => h j h1 (by omega)]
    rfl
theorem onesL_next (f : Nat → Bool) (p q : Nat) (hpq : p ≤ q) (h : ∀ j, p ≤ j → j < q → f j = false) (hq : f q = true) : onesL f (q + 1) = onesL f p ++ [q] := by
  rw [onesL_succ, hq]
  have := onesL_skip f p (q - p) fun j h1 h2 => h j h1 (by omega)
  rw [show p + (q - p) = q by omega] at this
  rw [this]; rfl
theorem onesL_len (f : Nat → Bool) (p : Nat) : (onesL f p).length ≤ p := by
  have := List.length_filter_le f (List.range p)
  rw [List.length_range] at this
  exact this
def onesV (f : Nat → Bool) (p : Nat) : List Value := (onesL f p).map fun j => .int .i64 (j : Nat)
theorem onesV_len (f : Nat → Bool) (p : Nat) : (onesV f p).length ≤ p := by unfold onesV; rw [List.length_map]; exact onesL_len f p
/-- of n truths, those behind are false -/
def cutB (l : Nat → Bool) (n : Nat) : Nat → Bool := fun i => decide (i < n) && l i

theorem info_int : (Tryz.prog.info? 3).map (fun i => (i.zero, i.size, i.bytes)) = some (some (.int .i64 0), 1, 8) := by kernel_rfl
theorem make_capI (n : Nat) (hn : n ≤ 2000000) (w : World) : (Instr.makeSlice 74 (.int .i64 0) (.int .i64 (n : Int))).run Tryz.prog w = .ok (.slice (some ⟨w.heap.size, 0, none⟩) 0 n) (w.alloc (.cells (madeCells #[.int .i64 0] n) 3)) := by
  obtain ⟨i, hi, hz, hs, hb⟩ := info_parts info_int
  have hr := run_make (P := Tryz.prog) w 74 3 i (.int .i64 0) Tryz.underlying74 hi hz .i64 .i64 0 (n : Int) (by omega) (by omega) (by rw [hb]; omega) (by omega)
  simp only [Int.toNat_natCast, hs, Nat.mul_one] at hr
  exact hr

set_option maxRecDepth 100000 in
set_option maxHeartbeats 2000000 in
theorem bones_any (v : Value) (n : Nat) (l : Nat → Bool) (w : World) (hn : n ≤ 1048576) (hb : BitsIn w v n l) (ht : TzTab w) :
    Calls Tryz.prog 142 #[v] w fun e w' => ∃ a m c, e = .returned (.slice a m c) ∧ Own1 w' w.heap.size 3 (.slice a m c) (onesV (cutB l n) (64 * ((n + 63) / 64))) ∧ Below w.heap.size w w' := by
  have HCN := Lib.hid (fun W (hw : Below w.heap.size w W) => count_any v n l W hn (hb.below hw))
  obtain ⟨b, o, c, rfl, hc⟩ := hb
  obtain ⟨M, hM⟩ : ∃ M, M = (n + 63) / 64 := ⟨_, rfl⟩
  rw [← hM] at hc HCN ⊢
  have HC := Lib.hid hc
  have HM := Lib.hid hM
  have HT := Lib.hid ht
  have hMb : M ≤ 16384 := by omega
  have HB0 := Lib.hid (bel1 w (.cells #[.slice (some ⟨b, o, none⟩) M c, .int .i64 (n : Int)] 26))
  have hmk := make_capI (cnt l n) (by have := cnt_le l n; omega)
  have hKb : cnt l n ≤ 1048576 := by have := cnt_le l n; omega
  generalize cnt l n = K at *
  clear hc hM ht
  go_enter Tryz.func142, Tryz.ntmps142
  go_wp2_with fail
  refine (HCN.out _ (bel1 w _)).mono ?_
  rintro e w1 ⟨rfl, hb1⟩
  have HB1 := Lib.hid (bel_both HB0.out hb1)
  have hk1 := block_up hb1
  clear hb1
  have HO0 : Hid (Own1 (w1.alloc (.cells (madeCells #[.int .i64 0] K) 3)) w.heap.size 3 (.slice (some ⟨w1.heap.size, 0, none⟩) 0 K) (onesV (cutB l n) (64 * 0))) :=
    World.ownsRow_made (base := w.heap.size) (e := 3) (size := 1) w1 (madeCells #[.int .i64 0] K) K HB1.out.size (by unfold maxLen; omega) (by rw [size_madeCells]; omega)
  have HBM := Lib.hid (bel_both HB1.out (bel1 w1 (.cells (madeCells #[.int .i64 0] K) 3)))
  obtain ⟨hk0, hkx, _⟩ := pair_of hk1
  have hlt1 : w.heap.size < w1.heap.size := lt_of_block hk1
  clear hk1
  go_wp2_with fail
  go_loopw [3, 12] (fun vv ii wr => ∃ i : Nat, i ≤ M ∧ ii = .int .i64 i ∧ Own1 wr w.heap.size 3 vv (onesV (cutB l n) (64 * i)) ∧ Below w.heap.size w wr) (fun _ ii _ => M - (intOf ii).toNat)
  case atStart => exact ⟨0, Nat.zero_le _, rfl, HO0.out, HBM.out⟩
  case round =>
    clear HO0 HBM HB0 HB1 hk0 hkx hmk
    obtain ⟨i, hi, rfl, hown, hbl⟩ := hrel
    have HOWN := Lib.hid hown
    have HBL := Lib.hid hbl
    clear hown hbl
    by_cases hlt : i < M
    · have hcell : wr.cell? ⟨b, o + i, none⟩ = some (.int .u64 (packW l n i : Nat)) := by rw [HBL.out.cell (cell_lt (HC.out i hlt))]; exact HC.out i hlt
      have HX0 : Hid (packW l n i < 18446744073709551616 ∧ ∀ j, j < 64 → (packW l n i).testBit j = (decide (64 * i ≤ 64 * i + j) && cutB l n (64 * i + j))) := ⟨packW_lt l n i, fun j hj => by rw [packW_bit l n i j hj]; unfold cutB; simp⟩
      generalize packW l n i = x0 at *
      go_wp2_with fail
      go_loopw [3, 5] (fun vv xx wr => ∃ p x : Nat, 64 * i ≤ p ∧ p ≤ 64 * (i + 1) ∧ xx = .int .u64 (x : Nat) ∧ x < 18446744073709551616 ∧ (∀ j, j < 64 → x.testBit j = (decide (p ≤ 64 * i + j) && cutB l n (64 * i + j))) ∧ Own1 wr w.heap.size 3 vv (onesV (cutB l n) p) ∧ Below w.heap.size w wr) (fun _ xx _ => (intOf xx).toNat)
      case atStart => exact ⟨64 * i, x0, Nat.le_refl _, by omega, rfl, HX0.out.1, HX0.out.2, HOWN.out, HBL.out⟩
      case round =>
        clear HX0 hcell HOWN HBL
        obtain ⟨p, x, hp1, hp2, rfl, hx, hbits, hown, hbl⟩ := hrel
        have HOWN := Lib.hid hown
        have HBL := Lib.hid hbl
        have HBITS := Lib.hid hbits
        clear hown hbl hbits
        by_cases h0 : x = 0
        · have HOWN2 : Hid (Own1 wr w.heap.size 3 u3 (onesV (cutB l n) (64 * (i + 1)))) := by
            have e : onesL (cutB l n) (p + (64 * (i + 1) - p)) = onesL (cutB l n) p := onesL_skip _ _ _ fun j h1 h2 => by
              have h3 := HBITS.out (j - 64 * i) (by omega)
              rw [h0, Nat.zero_testBit, show 64 * i + (j - 64 * i) = j by omega] at h3
              simpa [h1] using h3.symm
            rw [show p + (64 * (i + 1) - p) = 64 * (i + 1) by omega] at e
            have h := HOWN.out
            unfold onesV at h ⊢
            rw [e]
            exact h
          subst h0
          go_wp2
          go_roundw
          case rel => exact ⟨i + 1, by omega, by go_num, HOWN2.out, HBL.out⟩
          case measure => simp [intOf]; omega
        · obtain ⟨k, hk64, hbit, hlow, hand, htz⟩ := low_step x h0 hx
          have HTZ := Lib.hid (htz wr (HT.out.below HBL.out))
          obtain ⟨q, hq⟩ : ∃ q, q = 64 * i + k := ⟨_, rfl⟩
          rw [HBITS.out k hk64, ← hq] at hbit
          have hpq : p ≤ q ∧ cutB l n q = true := by simpa using hbit
          have HNX := Lib.hid (onesL_next (cutB l n) p q hpq.1 (fun j h1 h2 => by
            have h3 := hlow (j - 64 * i) (by omega)
            rw [HBITS.out (j - 64 * i) (by omega), show 64 * i + (j - 64 * i) = j by omega] at h3
            simpa [h1] using h3) hpq.2)
          have HOS : Hid (onesV (cutB l n) p ++ [.int .i64 (q : Nat)] = onesV (cutB l n) (q + 1)) := by
            show _ = _
            unfold onesV
            rw [HNX.out, List.map_append]
            rfl
          have HB2 : Hid (∀ j, j < 64 → (x &&& (x - 1)).testBit j = (decide (q + 1 ≤ 64 * i + j) && cutB l n (64 * i + j))) := fun j hj => by
            rw [hand j, HBITS.out j hj]
            by_cases h1 : k < j
            · have h2 : p ≤ 64 * i + j := by omega
              have h3 : q + 1 ≤ 64 * i + j := by omega
              simp [h1, h2, h3]
            · have h3 : ¬ q + 1 ≤ 64 * i + j := by omega
              simp [h1, h3]
          obtain ⟨x1, hx1⟩ : ∃ x1, x1 = x - 1 := ⟨_, rfl⟩
          have g1 : (x : Int) - 1 = (x1 : Int) := by omega
          have g2 := u64_and_nat x x1 hx (by omega)
          have g3 : (i : Int) * 64 + (k : Int) = (q : Int) := by omega
          have hx1l : x1 < 18446744073709551616 := by omega
          have hle : x &&& x1 ≤ x1 := Nat.and_le_right
          rw [← hx1] at HB2
          have hql : q ≤ 2000000 := by omega
          have hne : (x : Int) ≠ 0 := by omega
          have HPQ := Lib.hid hpq.1
          have HLN := Lib.hid (onesV_len (cutB l n) p)
          have hBw : w.heap.size ≤ wr.heap.size := HBL.out.size
          have HFL : Hid (((onesV (cutB l n) p).length + 1) * 8 ≤ 140737488355328) := by have := HLN.out; show _ ≤ _; omega
          have HFL2 : Hid ((onesV (cutB l n) p).length + 1 ≤ 140737488355328) := by have := HLN.out; show _ ≤ _; omega
          have HQ := Lib.hid hq
          have HX1 := Lib.hid hx1
          have hxpos : 0 < x := by omega
          clear hbit hlow hand htz hpq hq hx1 h0
          generalize x &&& x1 = x2 at *
          go_wp2_with fail
          refine HTZ.out.mono ?_
          rintro e w3 ⟨rfl, rfl⟩
          go_wp2_with (at_builtin; refine wpList_push1 rfl (.tmp 19) (.tmp 25) 74 3 rfl Tryz.underlying74 (.int .i64 0) 8 info_int rfl w.heap.size _ (onesV (cutB l n) p) rfl HOWN.out (.int .i64 q) rfl rfl HFL.out HFL2.out hBw ?_; intro v' w4 hv' hb' _ hs'; rw [HOS.out] at hv'; have HV := Lib.hid hv'; have HB' := Lib.hid (hb' _ (Below.refl _ _)); clear hb' hv' hs')
          go_roundw
          case rel => exact ⟨q + 1, x2, by omega, by have := HQ.out; omega, by go_num, by omega, HB2.out, HV.out, HBL.out.trans HB'.out⟩
          case measure => have := HX1.out; simp [intOf]; omega
    · obtain rfl : i = M := by omega
      obtain ⟨sa, sm, sc, rfl⟩ : ∃ a m c, u3 = .slice a m c := by obtain ⟨a, c, e⟩ := HOWN.out.reads.len; exact ⟨a, _, c, e⟩
      go_wp2
      go_ret
      exact ⟨_, _, _, rfl, HOWN.out, HBL.out⟩
end Go.Proofs.YtdddmehchfnppaaGreatDoor
