/- The walk of math/bits.OnesCount64 and of bitvec's Count. Conditions: as each theorem says. -/
import Derived.Test.YtdddmehchfnppaaDoorMg17
import Derived.Test.YtdddmehchfnppaaDoorMg18
namespace Go.Proofs.YtdddmehchfnppaaDoor
open Go Go.RowKit Go.Proofs Fl

theorem and127 (i : Nat) (h : i ≤ 2000000000000000000) : bits .and .i64 (i : Int) 127 = ((i % 128 : Nat) : Int) := by
  show IntKind.i64.wrap ((BitVec.ofInt 64 (i : Int) &&& BitVec.ofInt 64 ((127 : Nat) : Int)).toNat : Int) = _
  have e : i &&& 127 = i % 128 := Nat.and_two_pow_sub_one_eq_mod i 7
  rw [BitVec.toNat_and, ofInt_u64 i (by omega), ofInt_u64 127 (by omega), e, IntKind.wrap_i64]
  omega
theorem andM (x m : Nat) (mi : Int) (hmi : (m : Int) = mi) (hx : x < 18446744073709551616) (hm : m < 18446744073709551616) : bits .and .u64 (x : Int) mi = ((x &&& m : Nat) : Int) ∧ x &&& m ≤ m := ⟨by rw [← hmi]; exact u64_and_nat x m hx hm, Nat.and_le_right⟩

set_option maxHeartbeats 1000000 in
theorem ones_any (x : Nat) (hx : x < 18446744073709551616) (w : World) : Calls Tryd.prog 104 #[.int .u64 (x : Int)] w fun e w' => e = .returned (.int .i64 (cnt x.testBit 64 : Nat)) ∧ w = w' := by
  obtain ⟨h1, eh1⟩ : ∃ h, h = x / 2 := ⟨_, rfl⟩
  obtain ⟨a1, e1⟩ : ∃ a, a = h1 &&& 6148914691236517205 := ⟨_, rfl⟩
  obtain ⟨a2, e2⟩ : ∃ a, a = x &&& 6148914691236517205 := ⟨_, rfl⟩
  obtain ⟨x1, e3⟩ : ∃ a, a = a1 + a2 := ⟨_, rfl⟩
  obtain ⟨h2, eh2⟩ : ∃ h, h = x1 / 4 := ⟨_, rfl⟩
  obtain ⟨b1, e4⟩ : ∃ a, a = h2 &&& 3689348814741910323 := ⟨_, rfl⟩
  obtain ⟨b2, e5⟩ : ∃ a, a = x1 &&& 3689348814741910323 := ⟨_, rfl⟩
  obtain ⟨x2, e6⟩ : ∃ a, a = b1 + b2 := ⟨_, rfl⟩
  obtain ⟨h3, eh3⟩ : ∃ h, h = x2 / 16 := ⟨_, rfl⟩
  obtain ⟨s, e7⟩ : ∃ a, a = h3 + x2 := ⟨_, rfl⟩
  obtain ⟨x3, e8⟩ : ∃ a, a = s &&& 1085102592571150095 := ⟨_, rfl⟩
  obtain ⟨h4, eh4⟩ : ∃ h, h = x3 / 256 := ⟨_, rfl⟩
  obtain ⟨x4, e9⟩ : ∃ a, a = x3 + h4 := ⟨_, rfl⟩
  obtain ⟨h5, eh5⟩ : ∃ h, h = x4 / 65536 := ⟨_, rfl⟩
  obtain ⟨x5, e10⟩ : ∃ a, a = x4 + h5 := ⟨_, rfl⟩
  obtain ⟨h6, eh6⟩ : ∃ h, h = x5 / 4294967296 := ⟨_, rfl⟩
  obtain ⟨x6, e11⟩ : ∃ a, a = x5 + h6 := ⟨_, rfl⟩
  obtain ⟨hpop, l4, l5, l6⟩ := pop_law x hx a1 a2 x1 b1 b2 x2 s x3 x4 x5 x6 (by rw [e1, eh1]) e2 e3 (by rw [e4, eh2]) e5 e6 (by rw [e7, eh3]) e8 (by rw [e9, eh4]) (by rw [e10, eh5]) (by rw [e11, eh6])
  have HP := Lib.hid hpop
  clear hpop
  have i1 : (x : Int) / 2 = (h1 : Int) := by rw [eh1]; rfl
  have hh1 : h1 < 18446744073709551616 := by omega
  obtain ⟨i2, k1⟩ := andM h1 6148914691236517205 6148914691236517205 rfl hh1 (by decide)
  obtain ⟨i3, k2⟩ := andM x 6148914691236517205 6148914691236517205 rfl hx (by decide)
  rw [← e1] at i2 k1
  rw [← e2] at i3 k2
  have i4 : (a1 : Int) + (a2 : Int) = (x1 : Int) := by rw [e3]; rfl
  have hx1 : x1 < 18446744073709551616 := by omega
  have i5 : (x1 : Int) / 4 = (h2 : Int) := by rw [eh2]; rfl
  have hh2 : h2 < 18446744073709551616 := by omega
  obtain ⟨i6, k3⟩ := andM h2 3689348814741910323 3689348814741910323 rfl hh2 (by decide)
  obtain ⟨i7, k4⟩ := andM x1 3689348814741910323 3689348814741910323 rfl hx1 (by decide)
  rw [← e4] at i6 k3
  rw [← e5] at i7 k4
  have i8 : (b1 : Int) + (b2 : Int) = (x2 : Int) := by rw [e6]; rfl
  have hx2 : x2 ≤ 7378697629483820646 := by omega
  have i9 : (x2 : Int) / 16 = (h3 : Int) := by rw [eh3]; rfl
  have hh3 : h3 ≤ 461168601842738790 := by omega
  have i10 : (h3 : Int) + (x2 : Int) = (s : Int) := by rw [e7]; rfl
  have hs : s < 18446744073709551616 := by omega
  obtain ⟨i11, k5⟩ := andM s 1085102592571150095 1085102592571150095 rfl hs (by decide)
  rw [← e8] at i11 k5
  have i12 : (x3 : Int) / 256 = (h4 : Int) := by rw [eh4]; rfl
  have i13 : (x3 : Int) + (h4 : Int) = (x4 : Int) := by rw [e9]; rfl
  have i14 : (x4 : Int) / 65536 = (h5 : Int) := by rw [eh5]; rfl
  have i15 : (x4 : Int) + (h5 : Int) = (x5 : Int) := by rw [e10]; rfl
  have i16 : (x5 : Int) / 4294967296 = (h6 : Int) := by rw [eh6]; rfl
  have i17 : (x5 : Int) + (h6 : Int) = (x6 : Int) := by rw [e11]; rfl
  have i18 := and127 x6 l6
  have hh4 : h4 ≤ 2000000000000000000 := by omega
  have hh5 : h5 ≤ 2000000000000000000 := by omega
  have hh6 : h6 ≤ 2000000000000000000 := by omega
  clear eh1 e1 e2 e3 eh2 e4 e5 e6 eh3 e7 e8 eh4 e9 eh5 e10 eh6 e11
  go_enter Tryd.func104, Tryd.ntmps104
  go_wp2
  go_ret
  exact ⟨by rw [← HP.out]; rfl, rfl⟩

/-- how many bits of so many words are set -/
def cntW (X : Nat → Nat) : Nat → Nat
  | 0 => 0
  | i + 1 => cntW X i + cnt (X i).testBit 64
theorem cntW_succ (X : Nat → Nat) (i : Nat) : cntW X (i + 1) = cntW X i + cnt (X i).testBit 64 := rfl
theorem cntW_le (X : Nat → Nat) (i : Nat) : cntW X i ≤ 64 * i := by
  induction i with
  | zero => exact Nat.le_refl _
  | succ i ih => have := cnt_le (X i).testBit 64; unfold cntW; omega
theorem cntW_pack (l : Nat → Bool) (n : Nat) : ∀ M, cntW (packW l n) M = cnt (fun i => decide (i < n) && l i) (64 * M) := by
  intro M
  induction M with
  | zero => rfl
  | succ M ih =>
    have h := cnt_congr (f := (packW l n M).testBit) (g := fun i => decide (64 * M + i < n) && l (64 * M + i)) 64 fun i hi => packW_bit l n M i hi
    rw [Nat.mul_add, Nat.mul_one, cnt_add, ← ih, cntW_succ, h]
theorem cnt_cut (l : Nat → Bool) (n k : Nat) : cnt (fun i => decide (i < n) && l i) (n + k) = cnt l n := by
  rw [cnt_add]
  have h1 : cnt (fun i => decide (i < n) && l i) n = cnt l n := cnt_congr n fun i hi => by simp [hi]
  have h2 : cnt (fun i => decide (n + i < n) && l (n + i)) k = 0 := by
    induction k with
    | zero => rfl
    | succ k ih =>
      unfold cnt
      have : ¬ n + k < n := by omega
      rw [ih]; simp [this]
  rw [h1, h2]; rfl
theorem cntW_bits (l : Nat → Bool) (n : Nat) : cntW (packW l n) ((n + 63) / 64) = cnt l n := by
  rw [cntW_pack, show 64 * ((n + 63) / 64) = n + (64 * ((n + 63) / 64) - n) by omega, cnt_cut]

set_option maxRecDepth 100000 in
set_option maxHeartbeats 1000000 in
theorem count_words (b o M c : Nat) (len : Int) (X : Nat → Nat) (w : World) (hM : M ≤ 16384) (hc : ∀ j, j < M → w.cell? ⟨b, o + j, none⟩ = some (.int .u64 (X j : Nat))) (hX : ∀ j, j < M → X j < 18446744073709551616) :
    Calls Tryd.prog 81 #[.agg #[.slice (some ⟨b, o, none⟩) M c, .int .i64 len]] w fun e w' => e = .returned (.int .i64 (cntW X M : Nat)) ∧ Below w.heap.size w w' := by
  have HC := Lib.hid hc
  have HX := Lib.hid hX
  have HB0 := Lib.hid (bel1 w (.cells #[.slice (some ⟨b, o, none⟩) M c, .int .i64 len] 30))
  clear hc hX
  go_enter Tryd.func81, Tryd.ntmps81
  go_wp2_with fail
  go_loopw [3, 9] (fun nn ii wr => ∃ i : Nat, i ≤ M ∧ ii = .int .i64 i ∧ nn = .int .i64 (cntW X i : Nat) ∧ Below w.heap.size w wr) (fun _ ii _ => M - (intOf ii).toNat)
  case atStart => exact ⟨0, Nat.zero_le _, rfl, rfl, HB0.out⟩
  case round =>
    obtain ⟨i, hi, rfl, rfl, hbl⟩ := hrel
    have HBL := Lib.hid hbl
    clear hbl
    by_cases hlt : i < M
    · have hcell : wr.cell? ⟨b, o + i, none⟩ = some (.int .u64 (X i : Nat)) := by rw [HBL.out.cell (cell_lt (HC.out i hlt))]; exact HC.out i hlt
      have HON := Lib.hid (fun W => ones_any (X i) (HX.out i hlt) W)
      have hst : (cntW X i : Int) + (cnt (X i).testBit 64 : Int) = (cntW X (i + 1) : Nat) := by rw [cntW_succ]; rfl
      have hle := cntW_le X i
      have hle2 := cntW_le X (i + 1)
      have hl3 := cnt_le (X i).testBit 64
      obtain ⟨s2, hs2⟩ : ∃ s, cntW X (i + 1) = s := ⟨_, rfl⟩
      rw [hs2] at hst hle2
      generalize cntW X i = s1 at *
      generalize X i = x at *
      generalize cnt x.testBit 64 = k at *
      go_wp2_with fail
      refine (HON.out _).mono ?_
      rintro e w1 ⟨rfl, rfl⟩
      go_wp2
      go_roundw
      case rel => exact ⟨i + 1, by omega, by go_num, by rw [hs2], HBL.out⟩
      case measure => simp [intOf]; omega
    · obtain rfl : i = M := by omega
      go_wp2
      go_ret
      exact ⟨rfl, HBL.out⟩
end Go.Proofs.YtdddmehchfnppaaDoor
