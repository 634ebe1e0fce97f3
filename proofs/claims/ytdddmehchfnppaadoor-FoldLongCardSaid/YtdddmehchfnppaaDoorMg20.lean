/- Merged texts. The walks of bitvec's First, of logic's Any and All. Conditions: the table of math/bits reads as its text lays it, where asked. The walks of logic's Any and All over packed truths, of Count. Conditions: the table of math/bits reads as its text lays it, where asked. -/
import Derived.Test.YtdddmehchfnppaaDoorMg19
import Derived.Test.YtdddmehchfnppaaDoorMg09
import Derived.Lib.TrailingZeros
namespace Go.Proofs.YtdddmehchfnppaaDoor
open Go Go.RowKit Go.Proofs Fl

theorem tz_core (u p i : Nat) (z : Int) (h0 : ((u : Int) == 0) = false) (w : World)
    (hf : bits .and .u64 (u : Int) (IntKind.u64.wrap (-(u : Int))) = (p : Int)) (hi : IntKind.u64.wrap ((p : Int) * 285870213051353865) / 288230376151711744 = (i : Int)) (h64 : i < 64)
    (hc : w.cell? ⟨0, i, none⟩ = some (.int .u8 z)) (hz : 0 ≤ z) (hz2 : z < 64) :
    Calls Tryd.prog 125 #[.int .u64 u] w fun x w' => x = .returned (.int .i64 z) ∧ w = w' := by
  go_enter Tryd.func125, Tryd.ntmps125
  go_wp2
  go_ret
  exact ⟨rfl, rfl⟩

/-- the table of math/bits, as its text lays it -/
def TzTab (w : World) : Prop := ∀ i, i < 64 → w.cell? ⟨0, i, none⟩ = some (.int .u8 ((Lib.deBruijn64tab.getD i 0 : Nat) : Int))
theorem TzTab.below {w w' : World} (h : TzTab w) (hb : Below w.heap.size w w') : TzTab w' := fun i hi => by rw [hb.cell (cell_lt (h i hi))]; exact h i hi

theorem cast3 (p a b c : Nat) : ((p : Int) * (a : Int)) % (b : Int) / (c : Int) = ((p * a % b / c : Nat) : Int) := by
  rw [Int.natCast_ediv, Int.natCast_emod, Int.natCast_mul]

theorem tz_any (k m : Nat) (h : 2^k * (2 * m + 1) < 18446744073709551616) (w : World) (ht : TzTab w) :
    Calls Tryd.prog 125 #[.int .u64 ((2^k * (2 * m + 1) : Nat) : Int)] w fun x w' => x = .returned (.int .i64 k) ∧ w = w' := by
  have hk : k < 64 := by
    have h1 : 2^k ≤ 2^k * (2 * m + 1) := Nat.le_mul_of_pos_right _ (by omega)
    have h2 : 2^k < 2^64 := by omega
    exact (Nat.pow_lt_pow_iff_right (by omega)).1 h2
  have hn := Lib.and_neg 64 k m (by omega)
  have hp : 0 < 2^k * (2 * m + 1) := Nat.mul_pos (Nat.two_pow_pos k) (by omega)
  obtain ⟨d1, d2⟩ := Lib.deBruijn64_at k hk
  have hp64 : 2^k < 2^64 := Nat.pow_lt_pow_right (by omega) hk
  generalize 2^k * (2 * m + 1) = u at *
  generalize 2^k = p at *
  refine tz_core u p (p * 285870213051353865 % 18446744073709551616 / 288230376151711744) k (beq_eq_false_iff_ne.2 (by omega)) w ?_ ?_ d1 ?_ (by omega) (by omega)
  · rw [IntKind.wrap_u64]
    have e : (-(u : Int)) % 18446744073709551616 = ((2^64 - u : Nat) : Int) := by omega
    rw [e, u64_and_nat u (2^64 - u) h (by omega), hn]
  · rw [IntKind.wrap_u64]; exact cast3 p _ _ _
  · rw [ht _ d1, d2]

/-- a word's lowest bit -/
theorem low_bit (x : Nat) (h0 : x ≠ 0) (hx : x < 18446744073709551616) : ∃ k m, x = 2 ^ k * (2 * m + 1) ∧ k < 64 ∧ x.testBit k = true ∧ ∀ j, j < k → x.testBit j = false := by
  obtain ⟨m, e, hk⟩ := Lib.ctzFrom_spec 64 x (by omega) (by omega)
  refine ⟨Lib.ctzFrom 64 x, m, e, hk, ?_, fun j hj => ?_⟩
  · have : x.testBit (Lib.ctzFrom 64 x) = (2 ^ (Lib.ctzFrom 64 x) * (2 * m + 1)).testBit (Lib.ctzFrom 64 x) := by rw [← e]
    rw [this, Nat.mul_comm, Nat.testBit_mul_two_pow]
    simp
  · have : x.testBit j = (2 ^ (Lib.ctzFrom 64 x) * (2 * m + 1)).testBit j := by rw [← e]
    rw [this, Nat.mul_comm, Nat.testBit_mul_two_pow]
    have : ¬ Lib.ctzFrom 64 x ≤ j := by omega
    simp [this]
theorem tz_walk (x : Nat) (h0 : x ≠ 0) (hx : x < 18446744073709551616) : ∃ k, k < 64 ∧ x.testBit k = true ∧ (∀ j, j < k → x.testBit j = false) ∧ ∀ w, TzTab w → Calls Tryd.prog 125 #[.int .u64 (x : Int)] w fun e w' => e = .returned (.int .i64 k) ∧ w = w' := by
  obtain ⟨k, m, e, hk, h1, h2⟩ := low_bit x h0 hx
  refine ⟨k, hk, h1, h2, fun w ht => ?_⟩
  have := tz_any k m (by rw [← e]; exact hx) w ht
  rw [← e] at this
  exact this

/-- the first place that is true, or the length -/
def FirstIs (l : Nat → Bool) (n z : Nat) : Prop := z ≤ n ∧ (z < n → l z = true) ∧ ∀ j, j < z → l j = false
theorem packW_none {l : Nat → Bool} {n i : Nat} (h : packW l n i = 0) (j : Nat) (h1 : 64 * i ≤ j) (h2 : j < 64 * (i + 1)) (h3 : j < n) : l j = false := by
  have := packW_bit l n i (j - 64 * i) (by omega)
  rw [h, Nat.zero_testBit, show 64 * i + (j - 64 * i) = j by omega] at this
  simpa [h3] using this.symm

set_option maxRecDepth 100000 in
set_option maxHeartbeats 1000000 in
theorem first_any (v : Value) (n : Nat) (l : Nat → Bool) (w : World) (hn : n ≤ 1048576) (hb : BitsIn w v n l) (ht : TzTab w) :
    Calls Tryd.prog 105 #[v] w fun e w' => ∃ z : Nat, e = .returned (.int .i64 z) ∧ FirstIs l n z ∧ Below w.heap.size w w' := by
  obtain ⟨b, o, c, rfl, hc⟩ := hb
  obtain ⟨M, hM⟩ : ∃ M, M = (n + 63) / 64 := ⟨_, rfl⟩
  rw [← hM] at hc ⊢
  have HC := Lib.hid hc
  have HM := Lib.hid hM
  have HT := Lib.hid ht
  have hMb : M ≤ 16384 := by omega
  have HB0 := Lib.hid (bel1 w (.cells #[.slice (some ⟨b, o, none⟩) M c, .int .i64 (n : Int)] 30))
  have HK0 := Lib.hid (heap_alloc_new w (.cells #[.slice (some ⟨b, o, none⟩) M c, .int .i64 (n : Int)] 30))
  clear hc hM ht
  go_enter Tryd.func105, Tryd.ntmps105
  go_wp2_with fail
  go_loopw [8] (fun ii wr => ∃ i : Nat, i ≤ M ∧ ii = .int .i64 i ∧ (∀ j, j < i → packW l n j = 0) ∧ Below w.heap.size w wr ∧ wr.heap[w.heap.size]? = some (.cells #[.slice (some ⟨b, o, none⟩) M c, .int .i64 (n : Int)] 30)) (fun ii _ => M - (intOf ii).toNat)
  case atStart => exact ⟨0, Nat.zero_le _, rfl, fun j hj => absurd hj (Nat.not_lt_zero _), HB0.out, HK0.out⟩
  case round =>
    clear HB0 HK0
    obtain ⟨i, hi, rfl, hz, hbl, hk⟩ := hrel
    have HBL := Lib.hid hbl
    have HZ := Lib.hid hz
    have HK := Lib.hid hk
    clear hbl hz hk
    by_cases hlt : i < M
    · have hcell : wr.cell? ⟨b, o + i, none⟩ = some (.int .u64 (packW l n i : Nat)) := by rw [HBL.out.cell (cell_lt (HC.out i hlt))]; exact HC.out i hlt
      by_cases h0 : packW l n i = 0
      · rw [h0] at hcell
        have HZ2 : Hid (∀ j, j < i + 1 → packW l n j = 0) := fun j hj => by
          by_cases e : j = i
          · rw [e]; exact h0
          · exact HZ.out j (by omega)
        clear h0
        go_wp2
        go_roundw
        case rel => exact ⟨i + 1, by omega, by go_num, HZ2.out, HBL.out, HK.out⟩
        case measure => simp [intOf]; omega
      · obtain ⟨k, hk64, hbit, hlow, htz⟩ := tz_walk (packW l n i) h0 (packW_lt l n i)
        have HTZ := Lib.hid (htz wr (HT.out.below HBL.out))
        have hin : 64 * i + k < n ∧ l (64 * i + k) = true := by
          rw [packW_bit l n i k hk64] at hbit
          simpa using hbit
        have HRES : Hid (FirstIs l n (i * 64 + k)) := by
          refine ⟨by omega, fun _ => by rw [show i * 64 + k = 64 * i + k by omega]; exact hin.2, fun j hj => ?_⟩
          by_cases h1 : j / 64 < i
          · exact packW_none (HZ.out (j / 64) h1) j (by omega) (by omega) (by omega)
          · have h2 := hlow (j - 64 * i) (by omega)
            rw [packW_bit l n i (j - 64 * i) (by omega), show 64 * i + (j - 64 * i) = j by omega] at h2
            have h3 : j < n := by omega
            simpa [h3] using h2
        have hne : ((packW l n i : Nat) : Int) ≠ 0 := by omega
        have hxl := packW_lt l n i
        clear h0 hbit hlow htz hin
        generalize packW l n i = x at *
        go_wp2_with fail
        refine HTZ.out.mono ?_
        rintro e w3 ⟨rfl, rfl⟩
        go_wp2
        go_ret
        exact ⟨i * 64 + k, by push_cast; rfl, HRES.out, HBL.out⟩
    · obtain rfl : i = M := by omega
      obtain ⟨hk0, hk1, hkf⟩ := pair_of HK.out
      go_wp2
      go_ret
      exact ⟨n, rfl, ⟨Nat.le_refl _, fun h => absurd h (Nat.lt_irrefl _), fun j hj => packW_none (HZ.out (j / 64) (by have := HM.out; omega)) j (by omega) (by omega) hj⟩, HBL.out⟩
end Go.Proofs.YtdddmehchfnppaaDoor
namespace Go.Proofs.YtdddmehchfnppaaDoor
open Go Go.RowKit Go.Proofs Fl

theorem count_any (v : Value) (n : Nat) (l : Nat → Bool) (w : World) (hn : n ≤ 1048576) (hb : BitsIn w v n l) :
    Calls Tryd.prog 81 #[v] w fun e w' => e = .returned (.int .i64 (cnt l n : Nat)) ∧ Below w.heap.size w w' := by
  obtain ⟨b, o, c, rfl, hc⟩ := hb
  have h := count_words b o ((n + 63) / 64) c n (packW l n) w (by omega) hc (fun j _ => packW_lt l n j)
  rw [cntW_bits] at h
  exact h
theorem blen_in (v : Value) (n : Nat) (l : Nat → Bool) (w : World) (hb : BitsIn w v n l) :
    Calls Tryd.prog 63 #[v] w fun e w' => e = .returned (.int .i64 n) ∧ Below w.heap.size w w' := by
  obtain ⟨b, o, c, rfl, hc⟩ := hb
  exact blen_any _ _ w

theorem cnt_zero (l : Nat → Bool) (n : Nat) : cnt l n = 0 ↔ ∀ j, j < n → l j = false := by
  induction n with
  | zero => exact ⟨fun _ j hj => absurd hj (Nat.not_lt_zero _), fun _ => rfl⟩
  | succ n ih =>
    unfold cnt
    constructor
    · intro h j hj
      by_cases e : j = n
      · subst e
        cases hl : l j with
        | false => rfl
        | true => rw [hl] at h; simp at h
      · exact ih.1 (by omega) j (by omega)
    · intro h
      rw [ih.2 fun j hj => h j (by omega), h n (by omega)]; rfl
theorem first_cnt {l : Nat → Bool} {n z : Nat} (h : FirstIs l n z) : decide ((z : Int) < (n : Int)) = decide (cnt l n ≠ 0) := by
  rw [decide_eq_decide]
  constructor
  · intro h1 h2
    have h3 : z < n := by omega
    have := (cnt_zero l n).1 h2 z h3
    rw [h.2.1 h3] at this
    cases this
  · intro h1
    apply Classical.byContradiction
    intro h2
    have h3 : z = n := by have := h.1; omega
    exact h1 ((cnt_zero l n).2 fun j hj => h.2.2 j (by omega))

set_option maxRecDepth 100000 in
set_option maxHeartbeats 1000000 in
theorem lall_any (v : Value) (n : Nat) (l : Nat → Bool) (w : World) (hn : n ≤ 1048576) (hb : BitsIn w v n l) :
    Calls Tryd.prog 83 #[v] w fun e w' => e = .returned (.bool (decide (cnt l n = n))) ∧ Below w.heap.size w w' := by
  have HC := Lib.hid (fun W (hw : Below w.heap.size w W) => count_any v n l W hn (hb.below hw))
  have HL := Lib.hid (fun W (hw : Below w.heap.size w W) => blen_in v n l W (hb.below hw))
  obtain ⟨b, o, c, rfl, _⟩ := hb
  have HE : Hid ((((cnt l n : Nat) : Int) == (n : Int)) = decide (cnt l n = n)) := by
    show _ = _
    rw [Bool.eq_iff_iff, beq_iff_eq, decide_eq_true_eq]
    omega
  go_enter Tryd.func83, Tryd.ntmps83
  go_wp2_with fail
  go_region_with (first
    | (go_at_call 81; (refine (HC.out _ ?_).mono ?_); (first | exact (bel1 w _).drew | (refine bel_both (bel1 w _).drew ?_; assumption)); rintro e w1 ⟨rfl, hb1⟩; obtain ⟨hc1, hf1⟩ := bcell2 hb1; have hz1 := hb1.size)
    | (go_at_call 63; go_loud ((refine (HL.out _ ?_).mono ?_); (first | exact (bel1 w _).drew | exact bel_both (bel1 w _).drew hb1); rintro e w2 ⟨rfl, hb2⟩); obtain ⟨hc2, hf2⟩ := bcell2 hb2; have hz2 := hb2.size))
  all_goals
    go_wp2
    go_ret
    exact ⟨by rw [← HE.out]; rfl, bel_both (bel_both (bel1 w _).drew hb1) hb2⟩

set_option maxRecDepth 100000 in
set_option maxHeartbeats 1000000 in
theorem lany_any (v : Value) (n : Nat) (l : Nat → Bool) (w : World) (hn : n ≤ 1048576) (hb : BitsIn w v n l) (ht : TzTab w) :
    Calls Tryd.prog 82 #[v] w fun e w' => e = .returned (.bool (decide (cnt l n ≠ 0))) ∧ Below w.heap.size w w' := by
  have HC := Lib.hid (fun W (hw : Below w.heap.size w W) => first_any v n l W hn (hb.below hw) (ht.below hw))
  have HL := Lib.hid (fun W (hw : Below w.heap.size w W) => blen_in v n l W (hb.below hw))
  obtain ⟨b, o, c, rfl, _⟩ := hb
  go_enter Tryd.func82, Tryd.ntmps82
  go_wp2_with fail
  go_region_with (first
    | (go_at_call 105; go_loud ((refine (HC.out _ ?_).mono ?_); exact (bel1 w _).drew; rintro e w1 ⟨z, rfl, hz, hb1⟩; have HZ := Lib.hid hz; clear hz); obtain ⟨hc1, hf1⟩ := bcell2 hb1; have hz1 := hb1.size)
    | (go_at_call 63; go_loud ((refine (HL.out _ ?_).mono ?_); exact bel_both (bel1 w _).drew hb1; rintro e w2 ⟨rfl, hb2⟩); obtain ⟨hc2, hf2⟩ := bcell2 hb2; have hz2 := hb2.size))
  all_goals
    have HE := Lib.hid (first_cnt HZ.out)
    have HE2 : Hid (decide (z < n) = decide (cnt l n ≠ 0)) := by have h := HE.out; rw [← h]; show _ = _; rw [decide_eq_decide]; omega
    go_wp2
    go_ret
    exact ⟨by first | (rw [← HE.out]; rfl) | (rw [← HE2.out]; rfl), bel_both (bel_both (bel1 w _).drew hb1) hb2⟩
end Go.Proofs.YtdddmehchfnppaaDoor
