/- Merged texts. The walk of the reference's Tidy of lists at numbers; a row of floats that came in. Conditions: as each theorem says. Plain laws of 64-bit floats as words of bits: what masks and shifts make of them; products with powers of two; what Ldexp must give. No program in sight. Conditions: none. -/
import Derived.Test.YtdddmehchfnppaaDoorMg38
import Derived.Test.YtdddmehchfnppaaDoorMg03
import Derived.Test.YtdddmehchfnppaaDoorMg00
import Derived.Laws.BitsAllLaws
namespace Go.Proofs.YtdddmehchfnppaaDoor
open Go Go.RowKit Go.Proofs Fl

theorem float64_info : (Tryd.prog.info? 26).map (fun i => (i.zero, i.size, i.bytes)) = some (some (.float .f64 0), 1, 8) := by kernel_rfl
theorem range_snoc {α : Type} (f : Nat → α) (k : Nat) : (List.range k).map f ++ [f k] = (List.range (k + 1)).map f := by
  rw [List.range_succ, List.map_append]; rfl

set_option maxRecDepth 100000 in
set_option maxHeartbeats 1000000 in
theorem rtidyL_some (b o c n : Nat) (F : Nat → Nat) (w : World) (hn : n ≤ 1000000)
    (hc : ∀ i, i < n → w.cell? ⟨b, o + i, none⟩ = some (.float .f64 (F i))) (hF : ∀ i, i < n → F i < 18446744073709551616) (hok : ∀ i, i < n → okF (F i) = true) :
    Calls Tryd.prog 14 #[.slice (some ⟨b, o, none⟩) n c] w fun e w' => ∃ v, e = .returned (.tuple #[v, .bool true]) ∧ Own1 w' w.heap.size 26 v ((List.range n).map fun j => .float .f64 (tidF (F j))) ∧ Below w.heap.size w w' := by
  have HC : Hid (∀ wr, Below w.heap.size w wr → ∀ i, i < n → wr.cell? ⟨b, o + i, none⟩ = some (.float .f64 (F i))) := by
    intro wr hb i h
    rw [hb.cell (cell_lt (hc i h))]; exact hc i h
  have HOK : Hid (∀ i, i < n → ∀ W, Calls Tryd.prog 40 #[.float .f64 (F i)] W fun e w' => e = .returned (.tuple #[.float .f64 (tidF (F i)), .bool true]) ∧ W = w') := by
    intro i hi
    rcases ok_cases (hF i hi) with h | h
    · exact h.2.2.2
    · rw [hok i hi] at h; cases h.1
  have hHB : Hid (Below w.heap.size w w) := Below.refl _ _
  clear hc hF hok
  go_enter Tryd.func14, Tryd.ntmps14
  go_wp2
  go_loopw [4, 5] (fun v i wr => ∃ k : Nat, k ≤ n ∧ i = .int .i64 k ∧ Own1 wr w.heap.size 26 v ((List.range k).map fun j => .float .f64 (tidF (F j))) ∧ Below w.heap.size w wr) (fun _ i _ => n - (intOf i).toNat)
  case atStart => exact ⟨0, Nat.zero_le _, rfl, Own1.nil w _ _, hHB.out⟩
  case round =>
    obtain ⟨k, hk, rfl, hown, hbl⟩ := hrel
    have HOWN := Lib.hid hown
    have HBL := Lib.hid hbl
    have hBw : w.heap.size ≤ wr.heap.size := hbl.size
    clear hown hbl
    by_cases hlt : k < n
    · have hcell := HC.out wr HBL.out k hlt
      have HT := Lib.hid (HOK.out k hlt)
      have HS := Lib.hid (range_snoc (fun j => Value.float .f64 (tidF (F j))) k)
      have HFL : Hid ((((List.range k).map fun j => Value.float .f64 (tidF (F j))).length + 1) * 8 ≤ 140737488355328) := by show _ ≤ _; rw [List.length_map, List.length_range]; omega
      have HFL2 : Hid (((List.range k).map fun j => Value.float .f64 (tidF (F j))).length + 1 ≤ 140737488355328) := by show _ ≤ _; rw [List.length_map, List.length_range]; omega
      obtain ⟨L, hL⟩ : ∃ L, L = (List.range k).map fun j => Value.float .f64 (tidF (F j)) := ⟨_, rfl⟩
      rw [← hL] at HOWN HS HFL HFL2
      clear hL
      generalize tidF (F k) = y at *
      generalize F k = x at *
      go_wp2_with fail
      refine (HT.out _).mono ?_
      rintro e w' ⟨rfl, rfl⟩
      go_wp2_with (at_builtin; refine wpList_push1 rfl (.tmp 24) (.tmp 26) 25 26 rfl Tryd.underlying25 (.float .f64 0) 8 float64_info rfl w.heap.size _ L rfl HOWN.out (.float .f64 y) rfl rfl HFL.out HFL2.out hBw ?_; intro v' w1 hv' hb' hk' hs'; rw [HS.out] at hv'; have HV := Lib.hid hv'; have HB' := Lib.hid (hb' w HBL.out); clear hb' hk' hv')
      go_roundw
      case rel => exact ⟨k + 1, by omega, by go_num, HV.out, HB'.out⟩
      case measure => simp [intOf]; omega
    · obtain rfl : k = n := by omega
      go_wp2
      go_ret2
      exact ⟨_, rfl, HOWN.out, HBL.out⟩

set_option maxHeartbeats 400000 in
theorem rtidyL_none (a : Option Addr) (c : Nat) (w : World) :
    Calls Tryd.prog 14 #[.slice a 0 c] w fun e w' => ∃ v, e = .returned (.tuple #[v, .bool true]) ∧ Own1 w' w.heap.size 26 v [] ∧ Below w.heap.size w w' := by
  go_enter Tryd.func14, Tryd.ntmps14
  go_wp2
  refine wp_loop_rounds 1 ?_
  rw [rounds_succ]
  go_wp2
  go_ret2
  exact ⟨_, rfl, Own1.nil _ _ _, Below.refl _ _⟩
theorem rtidyL_any {v : Value} {n : Nat} {F : Nat → Nat} {w : World} (hr : Reads1 w v ((List.range n).map fun j => .float .f64 (F j))) (hn : n ≤ 1000000) (hF : ∀ i, i < n → F i < 18446744073709551616) (hok : ∀ i, i < n → okF (F i) = true) :
    Calls Tryd.prog 14 #[v] w fun e w' => ∃ v, e = .returned (.tuple #[v, .bool true]) ∧ Own1 w' w.heap.size 26 v ((List.range n).map fun j => .float .f64 (tidF (F j))) ∧ Below w.heap.size w w' := by
  obtain ⟨a, c, rfl, hc⟩ := reads_at hr
  by_cases h0 : n = 0
  · subst h0
    exact rtidyL_none a c w
  · obtain ⟨b, o, rfl, _⟩ := hc 0 (by omega)
    exact rtidyL_some b o c n F w hn (fun i hi => reads_cell hr i hi) hF hok

/-- a row of floats that came in -/
def FRow (w : World) (v : Value) (n : Nat) (F : Nat → Nat) : Prop :=
  (∃ a c, v = .slice a n c ∧ n ≤ c) ∧ Reads1 w v ((List.range n).map fun j => .float .f64 (F j)) ∧ ∀ j, j < n → F j < 18446744073709551616
end Go.Proofs.YtdddmehchfnppaaDoor
namespace Go.Proofs.YtdddmehchfnppaaDoor.Fl
open Ieee Go

/-- the word of a sign, an exponent's field and a fraction's -/
def wd (s : Bool) (E F : Nat) : Nat := s.toNat * 9223372036854775808 + E * 4503599627370496 + F

theorem wd_word (s : Bool) (E F : Nat) : wd s E F = double.word s (E * 4503599627370496 + F) := by
  unfold wd Format.word; rw [signWeight]; cases s <;> simp <;> omega

theorem wd_lt (s : Bool) {E F : Nat} (hE : E < 2048) (hF : F < 4503599627370496) : wd s E F < 18446744073709551616 := by
  unfold wd; cases s <;> simp <;> omega

theorem wd_shr (s : Bool) {E F : Nat} (hE : E < 2048) (hF : F < 4503599627370496) : wd s E F / 4503599627370496 % 2048 = E := by
  unfold wd; cases s <;> simp <;> omega

theorem and_sign (x : Nat) : x &&& 9223372036854775808 = x / 9223372036854775808 % 2 * 9223372036854775808 := nat_bit 63 x
theorem and_rest (x : Nat) : x &&& 9223372036854775807 = x % 9223372036854775808 := Nat.and_two_pow_sub_one_eq_mod x 63
theorem and_frac (x : Nat) : x &&& 4503599627370495 = x % 4503599627370496 := Nat.and_two_pow_sub_one_eq_mod x 52

theorem and_unexp (s : Bool) {E F : Nat} (hE : E < 2048) (hF : F < 4503599627370496) : wd s E F &&& 9227875636482146303 = wd s 0 F := by
  have e : (9227875636482146303 : Nat) = 9223372036854775808 ||| 4503599627370495 := by decide
  rw [e, Nat.and_or_distrib_left, and_sign, and_frac]
  have e1 : wd s E F / 9223372036854775808 % 2 = s.toNat := by unfold wd; cases s <;> simp <;> omega
  have e2 : wd s E F % 4503599627370496 = F := by unfold wd; cases s <;> simp <;> omega
  rw [e1, e2, nat_join 63 _ _ (by omega) (by omega)]
  unfold wd; omega

theorem or_exp (s : Bool) {E F : Nat} (hE : E < 2048) (hF : F < 4503599627370496) : wd s 0 F ||| E * 4503599627370496 = wd s E F := by
  have e : wd s 0 F = s.toNat * 9223372036854775808 ||| F := by
    rw [nat_join 63 _ _ (by omega) (by omega)]; unfold wd; omega
  rw [e, Nat.or_assoc, Nat.or_comm F, nat_join 52 (E * 4503599627370496) F (by omega) (by omega), nat_join 63 _ _ (by omega) (by omega)]
  unfold wd; omega

/-- a float from 2^-1022 on has an exponent's field -/
theorem W_wd (s : Bool) {Z : Nat} (hz : Rep Z) (h : 4503599627370496 ≤ Z) :
    ∃ E F, 1 ≤ E ∧ E ≤ 2046 ∧ F < 4503599627370496 ∧ W s Z = wd s E F ∧ Z = (4503599627370496 + F) * 2^(E - 1) := by
  have hr := rung_lt hz
  have hm := mg_ex hz
  have h52 : ¬ rung Z < 4503599627370496 := by
    intro hlt
    unfold mg ex at hm
    have h2 : rung Z < 2^52 := by omega
    simp only [h2, if_true] at hm; omega
  refine ⟨rung Z / 4503599627370496, rung Z % 4503599627370496, ?_, ?_, ?_, ?_, ?_⟩
  · omega
  · omega
  · omega
  · rw [wd_word]; unfold W; congr 1; omega
  · unfold mg ex at hm
    have h2 : ¬ rung Z < 2^52 := by omega
    simp only [h2, if_false] at hm
    exact hm.symm

theorem read_wd (s : Bool) {E F : Nat} (h1 : 1 ≤ E) (h2 : E ≤ 2046) (hF : F < 4503599627370496) :
    double.read (wd s E F) = .number s (4503599627370496 + F) (-1074 + (E - 1 : Nat)) := by
  rw [wd_word, read_word s (by omega)]
  have h3 : ¬ (E * 4503599627370496 + F < 2^52) := by omega
  unfold mg ex
  simp only [h3, if_false]
  have e1 : (E * 4503599627370496 + F) % 2^52 = F := by omega
  have e2 : (E * 4503599627370496 + F) / 2^52 - 1 = E - 1 := by omega
  rw [e1, e2]

/-- the product of a power of two and a float -/
theorem mul_pow_l (c : Nat) (p : Int) (hc : double.read c = .number false 4503599627370496 p) (b : Nat) (s : Bool) (m : Nat) (i : Int) (hb : double.read b = .number s m i) :
    double.mul c b = some (double.nearest s m (i + p + 52)) := by
  simp only [Format.mul, hb, hc, Datum.product, Format.write, Option.map_some]
  have e : (4503599627370496 : Nat) * m = m * 2^52 := by omega
  have e2 : (false ^^ s) = s := by simp
  rw [e, nearest_shift, e2, show p + i + ((52 : Nat) : Int) = i + p + 52 by omega]
theorem mul_pow_r (c : Nat) (p : Int) (hc : double.read c = .number false 4503599627370496 p) (b : Nat) (s : Bool) (m : Nat) (i : Int) (hb : double.read b = .number s m i) :
    double.mul b c = some (double.nearest s m (i + p + 52)) := by
  simp only [Format.mul, hb, hc, Datum.product, Format.write, Option.map_some]
  have e : m * (4503599627370496 : Nat) = m * 2^52 := by omega
  have e2 : (s ^^ false) = s := by simp
  rw [e, nearest_shift, e2, show i + p + ((52 : Nat) : Int) = i + p + 52 by omega]

theorem read_one : double.read 4607182418800017408 = .number false 4503599627370496 (-52) := by decide
theorem read_m53 : double.read 4368491638549381120 = .number false 4503599627370496 (-105) := by decide
theorem read_p52 : double.read 4841369599423283200 = .number false 4503599627370496 0 := by decide

theorem mul_p52 (s : Bool) {Z : Nat} (hz : Rep Z) (hl : Z < 4503599627370496) : Rep (Z * 2^52) ∧ double.mul (W s Z) 4841369599423283200 = some (W s (Z * 2^52)) := by
  have hr : Rep (Z * 2^52) := by
    refine ⟨?_, Z, 52, by omega, rfl⟩
    by_cases h0 : Z = 0
    · subst h0; simp
    rw [log2_mul_pow 52 h0]
    have : Z.log2 ≤ 51 := log2_lt_of (by omega)
    omega
  refine ⟨hr, ?_⟩
  rw [mul_pow_r _ _ read_p52 _ _ _ _ (read_W s hz), ← nearest_W s hr]
  congr 1
  have e : Z * 2^52 = mg (rung Z) * 2^(ex (rung Z) + 52) := by rw [Nat.pow_add, ← Nat.mul_assoc, mg_ex hz]
  rw [e, nearest_shift]; congr 1; omega

/-- what is far below the least unit is none -/
theorem nearest_small (s : Bool) {m : Nat} (hm : m < 2^53) (p : Int) (hp : p < -1127) : double.nearest s m p = W s 0 := by
  by_cases h0 : m = 0
  · subst h0; simp [Format.nearest, W, rung]
  rw [nearest_eq s h0]
  have hl : m.log2 ≤ 52 := log2_lt_of hm
  have e1 : max (p + (m.log2:Int) - 52) (-1074) = -1074 := by omega
  rw [e1]
  have e3 : (p - (-1074)).toNat = 0 := by omega
  rw [e3]
  obtain ⟨d, hd, hd2⟩ : ∃ d, (-1074 - p).toNat = d ∧ 54 ≤ d := ⟨_, rfl, by omega⟩
  rw [hd]
  have h54 : 2^54 ≤ 2^d := Nat.pow_le_pow_right (by omega) hd2
  have a0 : (2^54 : Nat) = 18014398509481984 := by decide
  have a9 : (2^53 : Nat) = 9007199254740992 := by decide
  have e5 : rhe (m * 2^0) d = 0 := by
    unfold rhe
    simp only [Nat.pow_zero, Nat.mul_one]
    have b1 : m / 2^d = 0 := Nat.div_eq_of_lt (by omega)
    have b2 : m % 2^d = m := Nat.mod_eq_of_lt (by omega)
    rw [b1, b2]
    have a1 : decide (2^d < 2*m) = false := by simp; omega
    have a2 : (2^d == 2*m) = false := by simp; omega
    simp [a1, a2]
  rw [e5]; simp [W, rung]

/-- times a power of two, rounded: what Ldexp gives -/
def ldx (s : Bool) (Z : Nat) (k : Int) : Nat := double.nearest s Z (-1074 + k)

theorem ldx_shift (s : Bool) (Z j : Nat) (k : Int) : ldx s (Z * 2^j) k = ldx s Z (k + j) := by
  unfold ldx; rw [nearest_shift]; congr 1; omega

theorem ldx_parts (s : Bool) (M E : Nat) (k : Int) : ldx s (M * 2^(E - 1)) k = double.nearest s M (-1074 + k + (E - 1 : Nat)) := by
  unfold ldx; rw [nearest_shift]

end Go.Proofs.YtdddmehchfnppaaDoor.Fl
