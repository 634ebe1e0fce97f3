/- Walks of package math's functions on 64-bit floats: Abs, IsInf, IsNaN, Inf, Copysign, normalize, Ldexp. Conditions: as each theorem says. -/
import Derived.Test.YtmfklpacpjoggaaDoorLitB
import Derived.Test.YtmfklpacpjoggaaDoorFlb
namespace Go.Proofs.YtmfklpacpjoggaaDoor
open Go Go.RowKit Go.Proofs Fl

theorem run_f64bits (b : Nat) (w : World) : (callFunc 72 #[.float .f64 b]).run Tryd.prog w = .ok (.value (.int .u64 b)) w := by
  rw [run_callFunc_extern (fn := Tryd.f72) (e := Extern.MathFloatBits.float64bits) Tryd.func72 (by kernel_rfl) (by kernel_rfl) (by kernel_rfl) (by kernel_rfl)]
  rfl
theorem run_f64from (n : Int) (w : World) : (callFunc 73 #[.int .u64 n]).run Tryd.prog w = .ok (.value (.float .f64 n.toNat)) w := by
  rw [run_callFunc_extern (fn := Tryd.f73) (e := Extern.MathFloatBits.float64frombits) Tryd.func73 (by kernel_rfl) (by kernel_rfl) (by kernel_rfl) (by kernel_rfl)]
  rfl

theorem andNot_c (x c d : Nat) (hx : x < 18446744073709551616) (hc : c + d = 18446744073709551615) :
    bits .andNot .u64 (x : Int) (c : Int) = ((x &&& d : Nat) : Int) := by
  rw [u64_andNot_nat x c hx (by omega), show 18446744073709551615 - c = d by omega]

theorem word_abs (s : Bool) {r : Nat} (hr : r < 9223372036854775808) : Ieee.double.word s r &&& 9223372036854775807 = Ieee.double.word false r := by
  rw [and_rest]; unfold Ieee.Format.word; rw [signWeight]; cases s <;> simp <;> omega

theorem word_lt64 (s : Bool) {r : Nat} (hr : r < 9223372036854775808) : Ieee.double.word s r < 18446744073709551616 := by
  unfold Ieee.Format.word; rw [signWeight]; cases s <;> simp <;> omega

theorem abs_bits (s : Bool) {r : Nat} (hr : r < 9223372036854775808) :
    bits .andNot .u64 ((Ieee.double.word s r : Nat) : Int) 9223372036854775808 = ((Ieee.double.word false r : Nat) : Int) := by
  have := andNot_c (Ieee.double.word s r) 9223372036854775808 9223372036854775807 (word_lt64 s hr) (by omega)
  rw [word_abs s hr] at this
  exact this

set_option maxHeartbeats 400000 in
theorem abs_word (b c : Nat) (h : bits .andNot .u64 (b : Int) 9223372036854775808 = (c : Int)) (w : World) :
    Calls Tryd.prog 76 #[.float .f64 b] w fun e w' => e = .returned (.float .f64 c) ∧ w = w' := by
  have c1 := run_f64bits
  have c2 := run_f64from
  go_enter Tryd.func76, Tryd.ntmps76
  go_wp2
  go_ret
  exact ⟨by simp, rfl⟩

theorem abs_W (s : Bool) {Z : Nat} (hz : Rep Z) (w : World) :
    Calls Tryd.prog 76 #[.float .f64 (W s Z)] w fun e w' => e = .returned (.float .f64 (W false Z)) ∧ w = w' :=
  abs_word _ _ (abs_bits s (by have := rung_lt hz; omega)) w
theorem abs_inf (s : Bool) (w : World) :
    Calls Tryd.prog 76 #[.float .f64 (infw s)] w fun e w' => e = .returned (.float .f64 (infw false)) ∧ w = w' :=
  abs_word _ _ (abs_bits s (by omega)) w

set_option maxHeartbeats 400000 in
theorem isinf_W (s : Bool) {Z : Nat} (hz : Rep Z) (w : World) :
    Calls Tryd.prog 69 #[.float .f64 (W s Z), .int .i64 0] w fun e w' => e = .returned (.bool false) ∧ w = w' := by
  have h1 := fo_gt false false hz rep_top
  have := rep_le hz
  rw [W_top, sg_false, sg_false, decide_eq_false (by omega)] at h1
  have h1' := beq_eq_false_iff_ne.1 h1
  clear this
  go_enter Tryd.func69, Tryd.ntmps69
  go_wp2_with (go_at_call 76; refine (abs_W s hz _).mono ?_; rintro e w' ⟨rfl, rfl⟩)
  go_ret
  exact ⟨by simp, rfl⟩

set_option maxHeartbeats 400000 in
theorem isinf_inf (s : Bool) (w : World) :
    Calls Tryd.prog 69 #[.float .f64 (infw s), .int .i64 0] w fun e w' => e = .returned (.bool true) ∧ w = w' := by
  have h1 := fo_inf false false rep_top
  rw [W_top] at h1
  simp only [if_false, Bool.false_eq_true] at h1
  go_enter Tryd.func69, Tryd.ntmps69
  go_wp2_with (go_at_call 76; refine (abs_inf s _).mono ?_; rintro e w' ⟨rfl, rfl⟩)
  go_ret
  exact ⟨rfl, rfl⟩

set_option maxHeartbeats 400000 in
theorem isnan_W (s : Bool) {Z : Nat} (hz : Rep Z) (w : World) :
    Calls Tryd.prog 70 #[.float .f64 (W s Z)] w fun e w' => e = .returned (.bool false) ∧ w = w' := by
  have h1 : FloatKind.f64.format.order (W s Z) (W s Z) = some .eq := by
    have := order_W s s hz hz
    rw [cmp_eq] at this; exact this
  clear hz
  go_enter Tryd.func70, Tryd.ntmps70
  go_wp2
  go_ret
  exact ⟨rfl, rfl⟩

set_option maxHeartbeats 400000 in
theorem inf_any (s : Bool) (k : Int) (hk : k = if s then -1 else 1) (w : World) :
    Calls Tryd.prog 75 #[.int .i64 k] w fun e w' => e = .returned (.float .f64 (infw s)) ∧ w = w' := by
  have c2 := run_f64from
  have i1 : infw true = 18442240474082181120 := by decide
  have i2 : infw false = 9218868437227405312 := by decide
  cases s
  · obtain rfl : k = 1 := hk
    rw [i2]; clear i1 i2
    go_enter Tryd.func75, Tryd.ntmps75
    go_wp2
    go_ret
    exact ⟨rfl, rfl⟩
  · obtain rfl : k = -1 := hk
    rw [i1]; clear i1 i2
    go_enter Tryd.func75, Tryd.ntmps75
    go_wp2
    go_ret
    exact ⟨rfl, rfl⟩

theorem sign_bits (s : Bool) {r : Nat} (hr : r < 9223372036854775808) :
    bits .and .u64 ((Ieee.double.word s r : Nat) : Int) 9223372036854775808 = ((W s 0 : Nat) : Int) := by
  have := u64_and_nat (Ieee.double.word s r) 9223372036854775808 (word_lt64 s hr) (by omega)
  rw [and_sign] at this
  refine this.trans ?_
  congr 1
  unfold W Ieee.Format.word; rw [signWeight]; cases s <;> simp [rung] <;> omega

theorem or_zero_bits (n : Nat) (h : n < 18446744073709551616) : bits .or .u64 0 (n : Int) = (n : Int) := by
  have := u64_or_nat 0 n (by omega) h
  rw [Nat.zero_or] at this
  exact this

set_option maxHeartbeats 400000 in
theorem copysign_zero (s : Bool) {Z : Nat} (hz : Rep Z) (w : World) :
    Calls Tryd.prog 74 #[.float .f64 0, .float .f64 (W s Z)] w fun e w' => e = .returned (.float .f64 (W s 0)) ∧ w = w' := by
  have c1 := run_f64bits
  have c2 := run_f64from
  have h0 : bits .andNot .u64 (((0 : Nat)) : Int) 9223372036854775808 = 0 := by decide
  have h0' : bits .andNot .u64 0 9223372036854775808 = 0 := by decide
  have h1 : bits .and .u64 ((W s Z : Nat) : Int) 9223372036854775808 = ((W s 0 : Nat) : Int) := sign_bits s (by have := rung_lt hz; omega)
  have h2 := or_zero_bits (W s 0) (W_lt s rep_zero)
  clear hz
  generalize W s 0 = z at *
  go_enter Tryd.func74, Tryd.ntmps74
  go_wp2
  go_ret
  exact ⟨by simp, rfl⟩

theorem W_min : W false 4503599627370496 = 4503599627370496 := by decide
theorem rep_min : Rep 4503599627370496 := ⟨by decide, 1, 52, by decide, by decide⟩

set_option maxHeartbeats 400000 in
theorem norm_sub (s : Bool) {Z : Nat} (hz : Rep Z) (hl : Z < 4503599627370496) (w : World) :
    Calls Tryd.prog 71 #[.float .f64 (W s Z)] w fun e w' => e = .returned (.tuple #[.float .f64 (W s (Z * 2^52)), .int .i64 (-52)]) ∧ w = w' := by
  have h1 := order_W false false hz rep_min
  rw [W_min, sg_false, sg_false, cmp_lt (by omega)] at h1
  have h1 : FloatKind.f64.format.order (W false Z) 4503599627370496 = some .lt := h1
  have h2 := (mul_p52 s hz hl).2
  have h3 := fun w => run_float_arith (P := Tryd.prog) w .mul 41 .f64 (W s Z) 4841369599423283200 _ h2
  clear h2 hl
  generalize W s (Z * 2^52) = r at *
  go_enter Tryd.func71, Tryd.ntmps71
  go_wp2_with (go_at_call 76; refine (abs_W s hz _).mono ?_; rintro e w' ⟨rfl, rfl⟩)
  go_ret2
  exact ⟨rfl, rfl⟩

set_option maxHeartbeats 400000 in
theorem norm_nrm (s : Bool) {Z : Nat} (hz : Rep Z) (hl : 4503599627370496 ≤ Z) (w : World) :
    Calls Tryd.prog 71 #[.float .f64 (W s Z)] w fun e w' => e = .returned (.tuple #[.float .f64 (W s Z), .int .i64 0]) ∧ w = w' := by
  have h1 := fo_lt false false hz rep_min
  rw [W_min, sg_false, sg_false, decide_eq_false (by omega)] at h1
  have h1' := beq_eq_false_iff_ne.1 h1
  clear hl
  go_enter Tryd.func71, Tryd.ntmps71
  go_wp2_with (go_at_call 76; refine (abs_W s hz _).mono ?_; rintro e w' ⟨rfl, rfl⟩)
  go_ret2
  exact ⟨rfl, rfl⟩
end Go.Proofs.YtmfklpacpjoggaaDoor
