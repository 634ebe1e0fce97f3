/- Merged texts. The walk of the reference's Tidy of lists at numbers; a row of floats that came in. Conditions: as each theorem says. Plain laws of 64-bit floats as words of bits: what masks and shifts make of them; products with powers of two; what Ldexp must give. No program in sight. Conditions: none. Plain law of powers by repeated squares: no product of a zero and an infinity ever comes up. Conditions: as each theorem says. -/
import Derived.Test.YtdddmehchfnppaaGreatDoorMg21
import Derived.Test.YtdddmehchfnppaaGreatDoorMg02
import Derived.Test.YtdddmehchfnppaaGreatDoorMg00
import Derived.Laws.BitsAllLaws
import Derived.Test.YtdddmehchfnppaaGreatDoorMg08
namespace Go.Proofs.YtdddmehchfnppaaGreatDoor
open Go Go.RowKit Go.Proofs Fl

theorem float64_info : (Tryz.prog.info? 47).map (fun i => (i.zero, i.size, i.bytes)) = some (some (.float .f64 0), 1, 8) := by kernel_rfl
theorem range_snoc {α : Type} (f : Nat → α) (k : Nat) : (List.range k).map f ++ [f k] = (List.range (k + 1)).map f := by
  rw [List.range_succ, List.map_append]; rfl

set_option maxRecDepth 100000 in
set_option maxHeartbeats 1000000 in
theorem rtidyL_some (b o c n : Nat) (F : Nat → Nat) (w : World) (hn : n ≤ 1000000)
    (hc : ∀ i, i < n → w.cell? ⟨b, o + i, none⟩ = some (.float .f64 (F i))) (hF : ∀ i, i < n → F i < 18446744073709551616) (hok : ∀ i, i < n → okF (F i) = true) :
    Calls Tryz.prog 8 #[.slice (some ⟨b, o, none⟩) n c] w fun e w' => ∃ v, e = .returned (.tuple #[v, .bool true]) ∧ Own1 w' w.heap.size 47 v ((List.range n).map fun j => .float .f64 (tidF (F j))) ∧ Below w.heap.size w w' := by
  have HC : Hid (∀ wr, Below w.heap.size w wr → ∀ i, i < n → wr.cell? ⟨b, o + i, none⟩ = some (.float .f64 (F i))) := by
    intro wr hb i h
    rw [hb.cell (cell_lt (hc i h))]; exact hc i h
  have HOK : Hid (∀ i, i < n → ∀ W, Calls Tryz.prog 17 #[.float .f64 (F i)] W fun e w' => e = .returned (.tuple #[.float .f64 (tidF (F i)), .bool true]) ∧ W = w') := by
    intro i hi
    rcases ok_cases (hF i hi) with h | h
    · exact h.2.2.2
    · rw [hok i hi] at h; cases h.1
  have hHB : Hid (Below w.heap.size w w) := Below.refl _ _
  clear hc hF hok
  go_enter Tryz.func8, Tryz.ntmps8
  go_wp2
  go_loopw [4, 5] (fun v i wr => ∃ k : Nat, k ≤ n ∧ i = .int .i64 k ∧ Own1 wr w.heap.size 47 v ((List.range k).map fun j => .float .f64 (tidF (F j))) ∧ Below w.heap.size w wr) (fun _ i _ => n - (intOf i).toNat)
  case atStart => exact ⟨0, Nat.zero_le _, rfl, Own1.nil w _ _, hHB.out⟩
  case round =>
    obtain ⟨k, hk, rfl, hown, hbl⟩ := hrel
    have HOWN := Lib.hid hown
    have HBL := Lib.hid hbl
    have hBw : w.heap.size ≤ wr.heap.size := hbl.size
    clear hown hbl
    by_cases hlt : k < n
    · have hcell := HC.out wr HBL.out k hlt
      have HT := Lib.hid (HOK.out k hlt)
      have HS := Lib.hid (range_snoc (fun j => Value.float .f64 (tidF (F j))) k)
      have HFL : Hid ((((List.range k).map fun j => Value.float .f64 (tidF (F j))).length + 1) * 8 ≤ 140737488355328) := by show _ ≤ _; rw [List.length_map, List.length_range]; omega
      have HFL2 : Hid (((List.range k).map fun j => Value.float .f64 (tidF (F j))).length + 1 ≤ 140737488355328) := by show _ ≤ _; rw [List.length_map, List.length_range]; omega
      obtain ⟨L, hL⟩ : ∃ L, L = (List.range k).map fun j => Value.float .f64 (tidF (F j)) := ⟨_, rfl⟩
      rw [← hL] at HOWN HS HFL HFL2
      clear hL
      generalize tidF (F k) = y at *
      generalize F k = x at *
      go_wp2_with fail
      refine (HT.out _).mono ?_
      rintro e w' ⟨rfl, rfl⟩
      go_wp2_with (at_builtin; refine wpList_push1 rfl (.tmp 24) (.tmp 26) 22 47 rfl Tryz.underlying22 (.float .f64 0) 8 float64_info rfl w.heap.size _ L rfl HOWN.out (.float .f64 y) rfl rfl HFL.out HFL2.out hBw ?_; intro v' w1 hv' hb' hk' hs'; rw [HS.out] at hv'; have HV := Lib.hid hv'; have HB' := Lib.hid (hb' w HBL.out); clear hb' hk' hv')
      go_roundw
      case rel => exact ⟨k + 1, by omega, by go_num, HV.out, HB'.out⟩
      case measure => simp [intOf]; omega
    · obtain rfl : k = n := by omega
      go_wp2
      go_ret2
      exact ⟨_, rfl, HOWN.out, HBL.out⟩

set_option maxHeartbeats 400000 in
theorem rtidyL_none (a : Option Addr) (c : Nat) (w : World) :
    Calls Tryz.prog 8 #[.slice a 0 c] w fun e w' => ∃ v, e = .returned (.tuple #[v, .bool true]) ∧ Own1 w' w.heap.size 47 v [] ∧ Below w.heap.size w w' := by
  go_enter Tryz.func8, Tryz.ntmps8
  go_wp2
  refine wp_loop_rounds 1 ?_
  rw [rounds_succ]
  go_wp2
  go_ret2
  exact ⟨_, rfl, Own1.nil _ _ _, Below.refl _ _⟩
theorem rtidyL_any {v : Value} {n : Nat} {F : Nat → Nat} {w : World} (hr : Reads1 w v ((List.range n).map fun j => .float .f64 (F j))) (hn : n ≤ 1000000) (hF : ∀ i, i < n → F i < 18446744073709551616) (hok : ∀ i, i < n → okF (F i) = true) :
    Calls Tryz.prog 8 #[v] w fun e w' => ∃ v, e = .returned (.tuple #[v, .bool true]) ∧ Own1 w' w.heap.size 47 v ((List.range n).map fun j => .float .f64 (tidF (F j))) ∧ Below w.heap.size w w' := by
  obtain ⟨a, c, rfl, hc⟩ := reads_at hr
  by_cases h0 : n = 0
  · subst h0
    exact rtidyL_none a c w
  · obtain ⟨b, o, rfl, _⟩ := hc 0 (by omega)
    exact rtidyL_some b o c n F w hn (fun i hi => reads_cell hr i hi) hF hok

/-- a row of floats that came in -/
def FRow (w : World) (v : Value) (n : Nat) (F : Nat → Nat) : Prop :=
  (∃ a c, v = .slice a n c ∧ n ≤ c) ∧ Reads1 w v ((List.range n).map fun j => .float .f64 (F j)) ∧ ∀ j, j < n → F j < 18446744073709551616
end Go.Proofs.YtdddmehchfnppaaGreatDoor
namespace Go.Proofs.YtdddmehchfnppaaGreatDoor.Fl
open Ieee Go

/-- the word of a sign, an exponent's field and a fraction's -/
def wd (s : Bool) (E F : Nat) : Nat := s.toNat * 9223372036854775808 + E * 4503599627370496 + F

theorem wd_word (s : Bool) (E F : Nat) : wd s E F = double.word s (E * 4503599627370496 + F) := by
  unfold wd Format.word; rw [signWeight]; cases s <;> simp <;> omega

theorem wd_lt (s : Bool) {E F : Nat} (hE : E < 2048) (hF : F < 4503599627370496) : wd s E F < 18446744073709551616 := by
  unfold wd; cases s <;> simp <;> omega

theorem wd_shr (s : Bool) {E F : Nat} (hE : E < 2048) (hF : F < 4503599627370496) : wd s E F / 4503599627370496 % 2048 = E := by
  unfold wd; cases s <;> simp <;> omega

theorem and_sign (x : Nat) : x &&& 9223372036854775808 = x / 9223372036854775808 % 2 * 9223372036854775808 := nat_bit 63 x
theorem and_rest (x : Nat) : x &&& 9223372036854775807 = x % 9223372036854775808 := Nat.and_two_pow_sub_one_eq_mod x 63
theorem and_frac (x : Nat) : x &&& 4503599627370495 = x % 4503599627370496 := Nat.and_two_pow_sub_one_eq_mod x 52

theorem and_unexp (s : Bool) {E F : Nat} (hE : E < 2048) (hF : F < 4503599627370496) : wd s E F &&& 9227875636482146303 = wd s 0 F := by
  have e : (9227875636482146303 : Nat) = 9223372036854775808 ||| 4503599627370495 := by decide
  rw [e, Nat.and_or_distrib_left, and_sign, and_frac]
  have e1 : wd s E F / 9223372036854775808 % 2 = s.toNat := by unfold wd; cases s <;> simp <;> omega
  have e2 : wd s E F % 4503599627370496 = F := by unfold wd; cases s <;> simp <;> omega
  rw [e1, e2, nat_join 63 _ _ (by omega) (by omega)]
  unfold wd; omega

theorem or_exp (s : Bool) {E F : Nat} (hE : E < 2048) (hF : F < 4503599627370496) : wd s 0 F ||| E * 4503599627370496 = wd s E F := by
  have e : wd s 0 F = s.toNat * 9223372036854775808 ||| F := by
    rw [nat_join 63 _ _ (by omega) (by omega)]; unfold wd; omega
  rw [e, Nat.or_assoc, Nat.or_comm F, nat_join 52 (E * 4503599627370496) F (by omega) (by omega), nat_join 63 _ _ (by omega) (by omega)]
  unfold wd; omega

/-- a float from 2^-1022 on has an exponent's field -/
theorem W_wd (s : Bool) {Z : Nat} (hz : Rep Z) (h : 4503599627370496 ≤ Z) :
    ∃ E F, 1 ≤ E ∧ E ≤ 2046 ∧ F < 4503599627370496 ∧ W s Z = wd s E F ∧ Z = (4503599627370496 + F) * 2^(E - 1) := by
  have hr := rung_lt hz
  have hm := mg_ex hz
  have h52 : ¬ rung Z < 4503599627370496 := by
    intro hlt
    unfold mg ex at hm
    have h2 : rung Z < 2^52 := by omega
    simp only [h2, if_true] at hm; omega
  refine ⟨rung Z / 4503599627370496, rung Z % 4503599627370496, ?_, ?_, ?_, ?_, ?_⟩
  · omega
  · omega
  · omega
  · rw [wd_word]; unfold W; congr 1; omega
  · unfold mg ex at hm
    have h2 : ¬ rung Z < 2^52 := by omega
    simp only [h2, if_false] at hm
    exact hm.symm

theorem read_wd (s : Bool) {E F : Nat} (h1 : 1 ≤ E) (h2 : E ≤ 2046) (hF : F < 4503599627370496) :
    double.read (wd s E F) = .number s (4503599627370496 + F) (-1074 + (E - 1 : Nat)) := by
  rw [wd_word, read_word s (by omega)]
  have h3 : ¬ (E * 4503599627370496 + F < 2^52) := by omega
  unfold mg ex
  simp only [h3, if_false]
  have e1 : (E * 4503599627370496 + F) % 2^52 = F := by omega
  have e2 : (E * 4503599627370496 + F) / 2^52 - 1 = E - 1 := by omega
  rw [e1, e2]

/-- the product of a power of two and a float -/
theorem mul_pow_l (c : Nat) (p : Int) (hc : double.read c = .number false 4503599627370496 p) (b : Nat) (s : Bool) (m : Nat) (i : Int) (hb : double.read b = .number s m i) :
    double.mul c b = some (double.nearest s m (i + p + 52)) := by
  simp only [Format.mul, hb, hc, Datum.product, Format.write, Option.map_some]
  have e : (4503599627370496 : Nat) * m = m * 2^52 := by omega
  have e2 : (false ^^ s) = s := by simp
  rw [e, nearest_shift, e2, show p + i + ((52 : Nat) : Int) = i + p + 52 by omega]
theorem mul_pow_r (c : Nat) (p : Int) (hc : double.read c = .number false 4503599627370496 p) (b : Nat) (s : Bool) (m : Nat) (i : Int) (hb : double.read b = .number s m i) :
    double.mul b c = some (double.nearest s m (i + p + 52)) := by
  simp only [Format.mul, hb, hc, Datum.product, Format.write, Option.map_some]
  have e : m * (4503599627370496 : Nat) = m * 2^52 := by omega
  have e2 : (s ^^ false) = s := by simp
  rw [e, nearest_shift, e2, show i + p + ((52 : Nat) : Int) = i + p + 52 by omega]

theorem read_one : double.read 4607182418800017408 = .number false 4503599627370496 (-52) := by decide
theorem read_m53 : double.read 4368491638549381120 = .number false 4503599627370496 (-105) := by decide
theorem read_p52 : double.read 4841369599423283200 = .number false 4503599627370496 0 := by decide

theorem mul_p52 (s : Bool) {Z : Nat} (hz : Rep Z) (hl : Z < 4503599627370496) : Rep (Z * 2^52) ∧ double.mul (W s Z) 4841369599423283200 = some (W s (Z * 2^52)) := by
  have hr : Rep (Z * 2^52) := by
    refine ⟨?_, Z, 52, by omega, rfl⟩
    by_cases h0 : Z = 0
    · subst h0; simp
    rw [log2_mul_pow 52 h0]
    have : Z.log2 ≤ 51 := log2_lt_of (by omega)
    omega
  refine ⟨hr, ?_⟩
  rw [mul_pow_r _ _ read_p52 _ _ _ _ (read_W s hz), ← nearest_W s hr]
  congr 1
  have e : Z * 2^52 = mg (rung Z) * 2^(ex (rung Z) + 52) := by rw [Nat.pow_add, ← Nat.mul_assoc, mg_ex hz]
  rw [e, nearest_shift]; congr 1; omega

/-- what is far below the least unit is none -/
theorem nearest_small (s : Bool) {m : Nat} (hm : m < 2^53) (p : Int) (hp : p < -1127) : double.nearest s m p = W s 0 := by
  by_cases h0 : m = 0
  · subst h0; simp [Format.nearest, W, rung]
  rw [nearest_eq s h0]
  have hl : m.log2 ≤ 52 := log2_lt_of hm
  have e1 : max (p + (m.log2:Int) - 52) (-1074) = -1074 := by omega
  rw [e1]
  have e3 : (p - (-1074)).toNat = 0 := by omega
  rw [e3]
  obtain ⟨d, hd, hd2⟩ : ∃ d, (-1074 - p).toNat = d ∧ 54 ≤ d := ⟨_, rfl, by omega⟩
  rw [hd]
  have h54 : 2^54 ≤ 2^d := Nat.pow_le_pow_right (by omega) hd2
  have a0 : (2^54 : Nat) = 18014398509481984 := by decide
  have a9 : (2^53 : Nat) = 9007199254740992 := by decide
  have e5 : rhe (m * 2^0) d = 0 := by
    unfold rhe
    simp only [Nat.pow_zero, Nat.mul_one]
    have b1 : m / 2^d = 0 := Nat.div_eq_of_lt (by omega)
    have b2 : m % 2^d = m := Nat.mod_eq_of_lt (by omega)
    rw [b1, b2]
    have a1 : decide (2^d < 2*m) = false := by simp; omega
    have a2 : (2^d == 2*m) = false := by simp; omega
    simp [a1, a2]
  rw [e5]; simp [W, rung]

/-- times a power of two, rounded: what Ldexp gives -/
def ldx (s : Bool) (Z : Nat) (k : Int) : Nat := double.nearest s Z (-1074 + k)

theorem ldx_shift (s : Bool) (Z j : Nat) (k : Int) : ldx s (Z * 2^j) k = ldx s Z (k + j) := by
  unfold ldx; rw [nearest_shift]; congr 1; omega

theorem ldx_parts (s : Bool) (M E : Nat) (k : Int) : ldx s (M * 2^(E - 1)) k = double.nearest s M (-1074 + k + (E - 1 : Nat)) := by
  unfold ldx; rw [nearest_shift]

end Go.Proofs.YtdddmehchfnppaaGreatDoor.Fl
namespace Go.Proofs.YtdddmehchfnppaaGreatDoor
open Go Go.RowKit Go.Proofs Fl Ieee

/-- a float of a size of at least 1, or an infinity -/
def BigR (b : Nat) : Prop := ∃ s r, 1023 * 4503599627370496 ≤ r ∧ r ≤ 9218868437227405312 ∧ b = double.word s r
/-- a float of a size of at most 1 -/
def LowR (b : Nat) : Prop := ∃ s r, r ≤ 1023 * 4503599627370496 ∧ b = double.word s r

theorem word_lt {s : Bool} {r : Nat} (h : r ≤ 9218868437227405312) : double.word s r < 18446744073709551616 := by
  show (if s then double.signWeight + r else r) < _
  rw [signWeight]
  split <;> omega
theorem BigR.lt {b : Nat} (h : BigR b) : b < 18446744073709551616 := by
  obtain ⟨s, r, _, h2, rfl⟩ := h
  exact word_lt h2
theorem LowR.lt {b : Nat} (h : LowR b) : b < 18446744073709551616 := by
  obtain ⟨s, r, h2, rfl⟩ := h
  exact word_lt (by omega)
/-- what is read of a great one -/
theorem BigR.read {b : Nat} (h : BigR b) : (∃ s, double.read b = .infinity s) ∨ ∃ s m i, double.read b = .number s m i ∧ m ≠ 0 ∧ 0 ≤ (m.log2 : Int) + i := by
  obtain ⟨s, r, h1, h2, rfl⟩ := h
  by_cases e : r = 9218868437227405312
  · subst e
    exact .inl ⟨s, read_inf s⟩
  · have hr : r < 9218868437227405312 := by omega
    refine .inr ⟨s, _, _, read_word s hr, ?_, ?_⟩
    · unfold mg
      rw [if_neg (by omega)]
      omega
    · have hm : 52 ≤ (mg r).log2 := le_log2_of (by unfold mg; rw [if_neg (by omega)]; omega)
      have he : 1022 ≤ ex r := by unfold ex; rw [if_neg (by omega)]; omega
      omega
/-- what is read of a little one -/
theorem LowR.read {b : Nat} (h : LowR b) : ∃ s m q, double.read b = .number s m (-(q : Nat)) ∧ m ≤ 2 ^ q := by
  obtain ⟨s, r, h1, rfl⟩ := h
  have hr : r < 9218868437227405312 := by omega
  have he : ex r ≤ 1022 := by unfold ex; split <;> omega
  have e0 : (-1074 + (ex r : Int)) = -((1074 - ex r : Nat) : Int) := by omega
  refine ⟨s, mg r, 1074 - ex r, by rw [read_word s hr, e0], ?_⟩
  by_cases h52 : ex r = 1022
  · rw [h52]
    have : mg r = 2 ^ 52 := by
      unfold ex at h52
      unfold mg
      split at h52
      · omega
      · rw [if_neg (by omega)]; omega
    rw [this]
    exact Nat.le_refl _
  · have h1 := mg_lt r
    have h2 : 2 ^ 53 ≤ 2 ^ (1074 - ex r) := Nat.pow_le_pow_right (by decide) (by omega)
    omega

theorem log2_mul_ge {m n : Nat} (hm : m ≠ 0) (hn : n ≠ 0) : m.log2 + n.log2 ≤ (m * n).log2 := by
  apply le_log2_of
  rw [Nat.pow_add]
  exact Nat.mul_le_mul (Nat.log2_self_le hm) (Nat.log2_self_le hn)
theorem rhe_ge (n d : Nat) : n / 2^d ≤ rhe n d := by unfold rhe; omega
theorem nearest_big (s : Bool) {m : Nat} {i : Int} (hm : m ≠ 0) (h : 0 ≤ (m.log2 : Int) + i) : BigR (double.nearest s m i) := by
  rw [nearest_eq s hm]
  have e1 : max (i + (m.log2 : Int) - 52) (-1074) = i + m.log2 - 52 := by omega
  rw [e1]
  generalize hL : i + (m.log2 : Int) - 52 = L
  have hl : -52 ≤ L := by omega
  have h2 : 2 ^ 52 ≤ rhe (m * 2 ^ (i - L).toNat) (L - i).toNat := by
    refine Nat.le_trans ?_ (rhe_ge _ _)
    rw [Nat.le_div_iff_mul_le (Nat.two_pow_pos _), ← Nat.pow_add]
    have h3 : 2 ^ (m.log2 + (i - L).toNat) ≤ m * 2 ^ (i - L).toNat := by
      rw [Nat.pow_add]; exact Nat.mul_le_mul_right _ (Nat.log2_self_le hm)
    refine Nat.le_trans (Nat.pow_le_pow_right (by decide) ?_) h3
    omega
  have h4 : 1022 ≤ (L + 1074).toNat := by omega
  have h5 : 1022 * 4503599627370496 ≤ (L + 1074).toNat * 4503599627370496 := Nat.mul_le_mul_right _ h4
  refine ⟨s, _, ?_, Nat.min_le_right _ _, rfl⟩
  rw [Nat.le_min]
  exact ⟨by omega, by omega⟩

theorem rhe_le' {n d B : Nat} (h : n ≤ B * 2 ^ d) : rhe n d ≤ B := by
  have hp := Nat.two_pow_pos d
  by_cases e : n = B * 2 ^ d
  · rw [e, rhe_exact]; exact Nat.le_refl _
  · have h1 : n / 2 ^ d < B := (Nat.div_lt_iff_lt_mul hp).2 (by omega)
    have h2 : rhe n d ≤ n / 2 ^ d + 1 := by
      unfold rhe
      have : ∀ b : Bool, b.toNat ≤ 1 := by intro b; cases b <;> decide
      have := this (decide (2^d < 2*(n % 2^d)) || (2^d == 2*(n % 2^d) && (n / 2^d) % 2 == 1))
      omega
    omega
theorem word_zero_low (s : Bool) : LowR (double.nearest s 0 0) := ⟨s, 0, by omega, by cases s <;> decide⟩
theorem nearest_zero (s : Bool) (i : Int) : double.nearest s 0 i = double.word s 0 := by simp [Format.nearest]
theorem nearest_low (s : Bool) {m q : Nat} (h : m ≤ 2 ^ q) : LowR (double.nearest s m (-(q : Nat))) := by
  by_cases hm : m = 0
  · subst hm
    exact ⟨s, 0, by omega, nearest_zero s _⟩
  by_cases e : m = 2 ^ q
  · have h1 := nearest_shift s 1 q (-(q : Nat))
    rw [Nat.one_mul, show -(q : Int) + (q : Nat) = 0 by omega] at h1
    rw [e, h1]
    exact ⟨s, 1023 * 4503599627370496, Nat.le_refl _, by cases s <;> decide⟩
  · have hlt : m < 2 ^ q := by omega
    have hq : 1 ≤ q := by
      rcases Nat.eq_zero_or_pos q with h0 | h0
      · subst h0; simp at hlt; omega
      · exact h0
    have hl : m.log2 ≤ q - 1 := log2_lt_of (by rw [Nat.sub_add_cancel hq]; exact hlt)
    rw [nearest_eq s hm]
    generalize hL : max (-(q : Nat) + (m.log2 : Int) - 52) (-1074) = L
    have hm2 : m < 2 ^ (m.log2 + 1) := Nat.lt_log2_self
    have h1 : rhe (m * 2 ^ (-(q : Nat) - L).toNat) (L - -(q : Nat)).toNat ≤ 2 ^ (m.log2 + 1 + (-(q : Nat) - L).toNat - (L - -(q : Nat)).toNat) := by
      apply rhe_le'
      rw [← Nat.pow_add]
      have h3 : m * 2 ^ (-(q : Nat) - L).toNat ≤ 2 ^ (m.log2 + 1 + (-(q : Nat) - L).toNat) := by
        rw [Nat.pow_add]; exact Nat.mul_le_mul_right _ (Nat.le_of_lt hm2)
      exact Nat.le_trans h3 (Nat.pow_le_pow_right (by decide) (by omega))
    refine ⟨s, _, ?_, rfl⟩
    refine Nat.le_trans (Nat.min_le_left _ _) ?_
    by_cases hc : -1074 ≤ -(q : Nat) + (m.log2 : Int) - 52
    · have e2 : m.log2 + 1 + (-(q : Nat) - L).toNat - (L - -(q : Nat)).toNat = 53 := by omega
      rw [e2] at h1
      have h4 : (L + 1074).toNat ≤ 1021 := by omega
      have h5 : (L + 1074).toNat * 4503599627370496 ≤ 1021 * 4503599627370496 := Nat.mul_le_mul_right _ h4
      rw [show (2 : Nat) ^ 53 = 9007199254740992 from rfl] at h1
      exact Nat.le_trans (Nat.add_le_add h5 h1) (by decide)
    · have e3 : L = -1074 := by omega
      subst e3
      have e2 : m.log2 + 1 + (-(q : Nat) - (-1074 : Int)).toNat - ((-1074 : Int) - -(q : Nat)).toNat ≤ 52 := by omega
      have h6 := Nat.le_trans h1 (Nat.pow_le_pow_right (by decide) e2)
      have e4 : ((-1074 : Int) + 1074).toNat = 0 := by decide
      rw [e4, Nat.zero_mul, Nat.zero_add]
      exact Nat.le_trans h6 (by decide)

theorem big_mul {a b : Nat} (ha : BigR a) (hb : BigR b) : ∃ c, floatBits .mul .f64 a b = some c ∧ BigR c := by
  show ∃ c, ((double.read a).product (double.read b)).map double.write = some c ∧ BigR c
  have hi : ∀ s, BigR (double.write (.infinity s)) := fun s => ⟨s, 9218868437227405312, by decide, Nat.le_refl _, by cases s <;> decide⟩
  rcases ha.read with ⟨s, h1⟩ | ⟨s, m, i, h1, hm, h2⟩ <;> rcases hb.read with ⟨t, h3⟩ | ⟨t, n, j, h3, hn, h4⟩ <;> rw [h1, h3]
  · exact ⟨_, rfl, hi _⟩
  · refine ⟨_, by unfold Datum.product; dsimp only; rw [if_neg hn]; rfl, hi _⟩
  · refine ⟨_, by unfold Datum.product; dsimp only; rw [if_neg hm]; rfl, hi _⟩
  · refine ⟨_, rfl, nearest_big _ (Nat.mul_ne_zero hm hn) ?_⟩
    have := log2_mul_ge hm hn
    omega
theorem low_mul {a b : Nat} (ha : LowR a) (hb : LowR b) : ∃ c, floatBits .mul .f64 a b = some c ∧ LowR c := by
  show ∃ c, ((double.read a).product (double.read b)).map double.write = some c ∧ LowR c
  obtain ⟨s, m, p, h1, h2⟩ := ha.read
  obtain ⟨t, n, q, h3, h4⟩ := hb.read
  rw [h1, h3]
  refine ⟨_, rfl, ?_⟩
  show LowR (double.nearest (s ^^ t) (m * n) (-(p : Nat) + -(q : Nat)))
  have e : -(p : Int) + -(q : Nat) = -((p + q : Nat) : Int) := by omega
  rw [e]
  exact nearest_low _ (by rw [Nat.pow_add]; exact Nat.mul_le_mul h2 h4)

/-- the two kinds: of a size of at least 1, or of at most 1 -/
def Cl (t : Bool) (b : Nat) : Prop := if t = true then BigR b else LowR b
theorem Cl.lt {t : Bool} {b : Nat} (h : Cl t b) : b < 18446744073709551616 := by
  cases t
  · exact LowR.lt h
  · exact BigR.lt h
theorem Cl.mul {t : Bool} {a b : Nat} (ha : Cl t a) (hb : Cl t b) : floatBits .mul .f64 a b = some (opB .mul a b) ∧ Cl t (opB .mul a b) := by
  cases t
  · obtain ⟨c, h1, h2⟩ := low_mul ha hb
    have e : opB .mul a b = c := by unfold opB; rw [h1]; rfl
    rw [e]
    exact ⟨h1, h2⟩
  · obtain ⟨c, h1, h2⟩ := big_mul ha hb
    have e : opB .mul a b = c := by unfold opB; rw [h1]; rfl
    rw [e]
    exact ⟨h1, h2⟩
theorem cl_one (t : Bool) : Cl t 4607182418800017408 := by
  cases t
  · exact ⟨false, 1023 * 4503599627370496, Nat.le_refl _, by decide⟩
  · exact ⟨false, 1023 * 4503599627370496, Nat.le_refl _, by decide, by decide⟩
theorem cl_tf {b : Nat} (h : TF b) : ∃ t, Cl t b := by
  obtain ⟨s, Z, hz, rfl, _⟩ := h
  have hr := rung_lt hz
  by_cases hc : rung Z ≤ 1023 * 4503599627370496
  · exact ⟨false, s, rung Z, hc, rfl⟩
  · exact ⟨true, s, rung Z, by omega, by omega, rfl⟩
theorem cl_cases {t : Bool} {b : Nat} (h : Cl t b) : (∃ s Z, Rep Z ∧ b = W s Z) ∨ ∃ s, b = infw s := by
  have hw : ∀ s r, r ≤ 9218868437227405312 → b = double.word s r → (∃ s Z, Rep Z ∧ b = W s Z) ∨ ∃ s, b = infw s := by
    intro s r hr e
    by_cases h2 : r = 9218868437227405312
    · subst h2
      exact .inr ⟨s, e⟩
    · exact .inl ⟨s, mag r, rep_mag (by omega), by rw [W_mag]; exact e⟩
  cases t
  · obtain ⟨s, r, h1, h2⟩ := h
    exact hw s r (by omega) h2
  · obtain ⟨s, r, _, h1, h2⟩ := h
    exact hw s r h1 h2

/-- a power by repeated squares -/
def powF (k o x : Nat) : Nat := if k = 0 then o else powF (k / 2) (if k % 2 = 1 then opB .mul o x else o) (if 1 < k then opB .mul x x else x)
termination_by k
decreasing_by omega
theorem powF_zero (o x : Nat) : powF 0 o x = o := by rw [powF]; rfl
theorem powF_pos {k : Nat} (o x : Nat) (h : k ≠ 0) : powF k o x = powF (k / 2) (if k % 2 = 1 then opB .mul o x else o) (if 1 < k then opB .mul x x else x) := by
  rw [powF, if_neg h]
theorem powF_cl {t : Bool} (k : Nat) : ∀ {o x : Nat}, Cl t o → Cl t x → Cl t (powF k o x) := by
  induction k using Nat.strongRecOn with
  | _ k ih =>
    intro o x ho hx
    by_cases h : k = 0
    · subst h; rw [powF_zero]; exact ho
    · rw [powF_pos o x h]
      refine ih (k / 2) (by omega) ?_ ?_
      · split
        · exact (ho.mul hx).2
        · exact ho
      · split
        · exact (hx.mul hx).2
        · exact hx
theorem quo_one (s : Bool) {Z : Nat} (hz : Rep Z) (h0 : Z ≠ 0) : floatBits .quo .f64 4607182418800017408 (W s Z) = some (opB .quo 4607182418800017408 (W s Z)) ∧ opB .quo 4607182418800017408 (W s Z) < 18446744073709551616 := by
  refine opB_some ?_
  show ((Datum.quotient (double.fractionBits + 2) (double.read 4607182418800017408) (double.read (W s Z))).map double.write).isSome = true
  rw [read_W s hz, read_one]
  unfold Datum.quotient
  dsimp only
  rw [if_neg (fun e => h0 ((mg_zero hz).1 e))]
  rfl

/-- what raising to a power tells -/
noncomputable def powP (a : Nat) (n : Int) : Nat × Int :=
  if n < -1023 ∨ 1023 < n then (0, 24) else if 0 ≤ n then doneP (powF n.natAbs 4607182418800017408 a)
  else if (doneP (powF n.natAbs 4607182418800017408 a)).2 = 0 ∧ (doneP (powF n.natAbs 4607182418800017408 a)).1 ≠ 0 then doneP (opB .quo 4607182418800017408 (powF n.natAbs 4607182418800017408 a)) else (0, 24)
noncomputable def pwP (a b : Nat) : Nat × Int := match wholeP b with
  | none => (0, 24)
  | some n => powP a n
theorem powP_tf {a : Nat} (ha : TF a) (n : Int) : (∃ c, TF c ∧ powP a n = (c, 0)) ∨ powP a n = (0, 24) := by
  unfold powP
  obtain ⟨t, hc⟩ := cl_tf ha
  have ho := powF_cl n.natAbs (cl_one t) hc
  generalize powF n.natAbs 4607182418800017408 a = o at *
  split
  · exact .inr rfl
  · split
    · exact doneP_cases ho.lt
    · split
      · rename_i h
        rcases cl_cases ho with ⟨s, Z, hz, rfl⟩ | ⟨s, rfl⟩
        · have h0 : Z ≠ 0 := by
            rintro rfl
            rw [doneP_num s hz] at h
            exact h.2 rfl
          exact doneP_cases (quo_one s hz h0).2
        · rw [doneP_inf] at h
          cases h.1
      · exact .inr rfl
end Go.Proofs.YtdddmehchfnppaaGreatDoor
