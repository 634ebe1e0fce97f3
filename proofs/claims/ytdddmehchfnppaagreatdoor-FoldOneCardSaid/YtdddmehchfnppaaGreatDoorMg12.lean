/- Merged texts. The walks of Max, Min and of arith.One and the reference's One of layer 10, function by function. Conditions: as each theorem says. The walks of fold.One and of the reference's One of layer 13: both tell the same; a function of its parts for raising to a power. Conditions: as each theorem says. -/
import Derived.Test.YtdddmehchfnppaaGreatDoorMg11
import Derived.Test.YtdddmehchfnppaaGreatDoorMg09
namespace Go.Proofs.YtdddmehchfnppaaGreatDoor
open Go Go.RowKit Go.Proofs Fl

/-- how two numbers stand to each other -/
def cmpF (a b : Nat) : Ordering := (Ieee.double.order a b).getD .eq
theorem order_tf {a b : Nat} (ha : TF a) (hb : TF b) : FloatKind.f64.format.order a b = some (cmpF a b) := by
  obtain ⟨s, Z, hz, rfl, _⟩ := ha
  obtain ⟨t, Y, hy, rfl, _⟩ := hb
  show Ieee.double.order _ _ = _
  unfold cmpF
  rw [order_W s t hz hy]
  rfl
theorem cmpF_swap {a b : Nat} (ha : TF a) (hb : TF b) : cmpF b a = (cmpF a b).swap := by
  obtain ⟨s, Z, hz, rfl, _⟩ := ha
  obtain ⟨t, Y, hy, rfl, _⟩ := hb
  unfold cmpF
  rw [order_W s t hz hy, order_W t s hy hz]
  show compare _ _ = (compare _ _).swap
  rcases Int.lt_trichotomy (sg s Z) (sg t Y) with h | h | h
  · rw [cmp_lt h, cmp_gt h]; rfl
  · rw [h, cmp_eq]; rfl
  · rw [cmp_lt h, cmp_gt h]; rfl
theorem cmpF_fi {a b : Int} (ha : Good a) (hb : Good b) : cmpF (fi a) (fi b) = compare a b := by
  unfold cmpF
  rw [order_fi a b (natAbs_good ha) (natAbs_good hb)]
  rfl
def maxP (a b : Nat) : Nat := if cmpF a b = .lt then b else a
def minP (a b : Nat) : Nat := if cmpF a b = .gt then b else a
theorem maxP_tf {a b : Nat} (ha : TF a) (hb : TF b) : TF (maxP a b) := by unfold maxP; split <;> assumption
theorem minP_tf {a b : Nat} (ha : TF a) (hb : TF b) : TF (minP a b) := by unfold minP; split <;> assumption

set_option maxHeartbeats 400000 in
theorem nmax_any (a b : Nat) (ha : TF a) (hb : TF b) (w : World) : Calls Tryz.prog 83 #[.float .f64 a, .float .f64 b] w fun e w' => e = .returned (.float .f64 (maxP a b)) ∧ w = w' := by
  have h1 := order_tf ha hb
  have h2 := order_tf hb ha
  rw [cmpF_swap ha hb] at h2
  unfold maxP
  clear ha hb
  cases hc : cmpF a b
  all_goals
    rw [hc] at h1 h2
    clear hc
    simp only [Ordering.swap] at h2
    go_enter Tryz.func83, Tryz.ntmps83
    go_wp2
    go_ret
    exact ⟨rfl, rfl⟩

set_option maxHeartbeats 400000 in
theorem nmin_any (a b : Nat) (ha : TF a) (hb : TF b) (w : World) : Calls Tryz.prog 84 #[.float .f64 a, .float .f64 b] w fun e w' => e = .returned (.float .f64 (minP a b)) ∧ w = w' := by
  have h1 := order_tf ha hb
  have h2 := order_tf hb ha
  rw [cmpF_swap ha hb] at h2
  unfold minP
  clear ha hb
  cases hc : cmpF a b
  all_goals
    rw [hc] at h1 h2
    clear hc
    simp only [Ordering.swap] at h2
    go_enter Tryz.func84, Tryz.ntmps84
    go_wp2
    go_ret
    exact ⟨rfl, rfl⟩

set_option maxHeartbeats 400000 in
theorem arith_1 (a b : Nat) (ha : TF a) (hb : TF b) (w : World) : Calls Tryz.prog 42 #[.int .i64 1, .float .f64 a, .float .f64 b] w fun e w' => e = .returned (.tuple #[.float .f64 (doneP (opB .add a b)).1, .int .i64 (doneP (opB .add a b)).2]) ∧ w = w' := by
  have HC := Lib.hid (fun W => nadd_any a b ha hb W)
  clear ha hb
  generalize doneP (opB .add a b) = d at *
  go_enter Tryz.func42, Tryz.ntmps42
  go_wp2_with fail
  refine (HC.out _).mono ?_
  rintro e w' ⟨rfl, rfl⟩
  go_wp2
  go_ret2
  exact ⟨rfl, rfl⟩

set_option maxHeartbeats 400000 in
theorem ref10_1 (a b : Nat) (ha : TF a) (hb : TF b) (w : World) : Calls Tryz.prog 47 #[.int .i64 1, .float .f64 a, .float .f64 b] w fun e w' => e = .returned (.tuple #[.float .f64 (doneP (opB .add a b)).1, .int .i64 (doneP (opB .add a b)).2]) ∧ w = w' := by
  have HC := Lib.hid (fun W => reckon_add a b ha hb W)
  clear ha hb
  generalize doneP (opB .add a b) = d at *
  go_enter Tryz.func47, Tryz.ntmps47
  go_wp2_with fail
  refine (HC.out _).mono ?_
  rintro e w' ⟨rfl, rfl⟩
  go_wp2
  go_ret2
  exact ⟨rfl, rfl⟩

set_option maxHeartbeats 400000 in
theorem arith_2 (a b : Nat) (ha : TF a) (hb : TF b) (w : World) : Calls Tryz.prog 42 #[.int .i64 2, .float .f64 a, .float .f64 b] w fun e w' => e = .returned (.tuple #[.float .f64 (doneP (opB .sub a b)).1, .int .i64 (doneP (opB .sub a b)).2]) ∧ w = w' := by
  have HC := Lib.hid (fun W => nsub_any a b ha hb W)
  clear ha hb
  generalize doneP (opB .sub a b) = d at *
  go_enter Tryz.func42, Tryz.ntmps42
  go_wp2_with fail
  refine (HC.out _).mono ?_
  rintro e w' ⟨rfl, rfl⟩
  go_wp2
  go_ret2
  exact ⟨rfl, rfl⟩

set_option maxHeartbeats 400000 in
theorem ref10_2 (a b : Nat) (ha : TF a) (hb : TF b) (w : World) : Calls Tryz.prog 47 #[.int .i64 2, .float .f64 a, .float .f64 b] w fun e w' => e = .returned (.tuple #[.float .f64 (doneP (opB .sub a b)).1, .int .i64 (doneP (opB .sub a b)).2]) ∧ w = w' := by
  have HC := Lib.hid (fun W => reckon_sub a b ha hb W)
  clear ha hb
  generalize doneP (opB .sub a b) = d at *
  go_enter Tryz.func47, Tryz.ntmps47
  go_wp2_with fail
  refine (HC.out _).mono ?_
  rintro e w' ⟨rfl, rfl⟩
  go_wp2
  go_ret2
  exact ⟨rfl, rfl⟩

set_option maxHeartbeats 400000 in
theorem arith_3 (a b : Nat) (ha : TF a) (hb : TF b) (w : World) : Calls Tryz.prog 42 #[.int .i64 3, .float .f64 a, .float .f64 b] w fun e w' => e = .returned (.tuple #[.float .f64 (doneP (opB .mul a b)).1, .int .i64 (doneP (opB .mul a b)).2]) ∧ w = w' := by
  have HC := Lib.hid (fun W => nmul_any a b ha hb W)
  clear ha hb
  generalize doneP (opB .mul a b) = d at *
  go_enter Tryz.func42, Tryz.ntmps42
  go_wp2_with fail
  refine (HC.out _).mono ?_
  rintro e w' ⟨rfl, rfl⟩
  go_wp2
  go_ret2
  exact ⟨rfl, rfl⟩

set_option maxHeartbeats 400000 in
theorem ref10_3 (a b : Nat) (ha : TF a) (hb : TF b) (w : World) : Calls Tryz.prog 47 #[.int .i64 3, .float .f64 a, .float .f64 b] w fun e w' => e = .returned (.tuple #[.float .f64 (doneP (opB .mul a b)).1, .int .i64 (doneP (opB .mul a b)).2]) ∧ w = w' := by
  have HC := Lib.hid (fun W => reckon_mul a b ha hb W)
  clear ha hb
  generalize doneP (opB .mul a b) = d at *
  go_enter Tryz.func47, Tryz.ntmps47
  go_wp2_with fail
  refine (HC.out _).mono ?_
  rintro e w' ⟨rfl, rfl⟩
  go_wp2
  go_ret2
  exact ⟨rfl, rfl⟩

set_option maxHeartbeats 400000 in
theorem arith_4 (a b : Nat) (ha : TF a) (hb : TF b) (w : World) : Calls Tryz.prog 42 #[.int .i64 4, .float .f64 a, .float .f64 b] w fun e w' => e = .returned (.tuple #[.float .f64 (divP a b).1, .int .i64 (divP a b).2]) ∧ w = w' := by
  have HC := Lib.hid (fun W => ndiv_any a b ha hb W)
  clear ha hb
  generalize divP a b = d at *
  go_enter Tryz.func42, Tryz.ntmps42
  go_wp2_with fail
  refine (HC.out _).mono ?_
  rintro e w' ⟨rfl, rfl⟩
  go_wp2
  go_ret2
  exact ⟨rfl, rfl⟩

set_option maxHeartbeats 400000 in
theorem ref10_4 (a b : Nat) (ha : TF a) (hb : TF b) (w : World) : Calls Tryz.prog 47 #[.int .i64 4, .float .f64 a, .float .f64 b] w fun e w' => e = .returned (.tuple #[.float .f64 (divP a b).1, .int .i64 (divP a b).2]) ∧ w = w' := by
  have HC := Lib.hid (fun W => reckon_div a b ha hb W)
  clear ha hb
  generalize divP a b = d at *
  go_enter Tryz.func47, Tryz.ntmps47
  go_wp2_with fail
  refine (HC.out _).mono ?_
  rintro e w' ⟨rfl, rfl⟩
  go_wp2
  go_ret2
  exact ⟨rfl, rfl⟩

set_option maxHeartbeats 400000 in
theorem arith_5 (a b : Nat) (ha : TF a) (hb : TF b) (w : World) : Calls Tryz.prog 42 #[.int .i64 5, .float .f64 a, .float .f64 b] w fun e w' => e = .returned (.tuple #[.float .f64 (maxP a b), .int .i64 0]) ∧ w = w' := by
  have HC := Lib.hid (fun W => nmax_any a b ha hb W)
  clear ha hb
  generalize maxP a b = d at *
  go_enter Tryz.func42, Tryz.ntmps42
  go_wp2_with fail
  refine (HC.out _).mono ?_
  rintro e w' ⟨rfl, rfl⟩
  go_wp2
  go_ret2
  exact ⟨rfl, rfl⟩

set_option maxHeartbeats 400000 in
theorem ref10_5 (a b : Nat) (ha : TF a) (hb : TF b) (w : World) : Calls Tryz.prog 47 #[.int .i64 5, .float .f64 a, .float .f64 b] w fun e w' => e = .returned (.tuple #[.float .f64 (maxP a b), .int .i64 0]) ∧ w = w' := by
  have h1 := order_tf ha hb
  unfold maxP
  clear ha hb
  cases hc : cmpF a b
  all_goals
    rw [hc] at h1
    clear hc
    go_enter Tryz.func47, Tryz.ntmps47
    go_wp2
    go_ret2
    exact ⟨rfl, rfl⟩

set_option maxHeartbeats 400000 in
theorem arith_6 (a b : Nat) (ha : TF a) (hb : TF b) (w : World) : Calls Tryz.prog 42 #[.int .i64 6, .float .f64 a, .float .f64 b] w fun e w' => e = .returned (.tuple #[.float .f64 (minP a b), .int .i64 0]) ∧ w = w' := by
  have HC := Lib.hid (fun W => nmin_any a b ha hb W)
  clear ha hb
  generalize minP a b = d at *
  go_enter Tryz.func42, Tryz.ntmps42
  go_wp2_with fail
  refine (HC.out _).mono ?_
  rintro e w' ⟨rfl, rfl⟩
  go_wp2
  go_ret2
  exact ⟨rfl, rfl⟩

set_option maxHeartbeats 400000 in
theorem ref10_6 (a b : Nat) (ha : TF a) (hb : TF b) (w : World) : Calls Tryz.prog 47 #[.int .i64 6, .float .f64 a, .float .f64 b] w fun e w' => e = .returned (.tuple #[.float .f64 (minP a b), .int .i64 0]) ∧ w = w' := by
  have h1 := order_tf ha hb
  unfold minP
  clear ha hb
  cases hc : cmpF a b
  all_goals
    rw [hc] at h1
    clear hc
    go_enter Tryz.func47, Tryz.ntmps47
    go_wp2
    go_ret2
    exact ⟨rfl, rfl⟩

set_option maxHeartbeats 400000 in
theorem arith_7 (a b : Nat) (ha : TF a) (hb : TF b) (w : World) : Calls Tryz.prog 42 #[.int .i64 7, .float .f64 a, .float .f64 b] w fun e w' => e = .returned (.tuple #[.float .f64 (restP a b).1, .int .i64 (restP a b).2]) ∧ w = w' := by
  have HC := Lib.hid (fun W => nrest_any a b ha hb W)
  clear ha hb
  generalize restP a b = d at *
  go_enter Tryz.func42, Tryz.ntmps42
  go_wp2_with fail
  refine (HC.out _).mono ?_
  rintro e w' ⟨rfl, rfl⟩
  go_wp2
  go_ret2
  exact ⟨rfl, rfl⟩

set_option maxHeartbeats 400000 in
theorem ref10_7 (a b : Nat) (ha : TF a) (hb : TF b) (w : World) : Calls Tryz.prog 47 #[.int .i64 7, .float .f64 a, .float .f64 b] w fun e w' => e = .returned (.tuple #[.float .f64 (restP a b).1, .int .i64 (restP a b).2]) ∧ w = w' := by
  rcases whole_cases ha with ⟨x, hx, rfl, ex⟩ | ⟨ex, s, Z, hz, rfl, hn⟩
  · rcases whole_cases hb with ⟨y, hy, rfl, ey⟩ | ⟨ey, t, Y, hy, rfl, hm⟩
    · rw [restP_of ex ey]
      have HA := Lib.hid (fun W => rwhole_fi x hx W)
      have HB := Lib.hid (fun W => rwhole_fi y hy W)
      have HR := Lib.hid (fun W => rrest_any x y hx hy W)
      have c1 := conv_fi x hx
      have c2 := conv_fi y hy
      clear ha hb hx hy ex ey
      generalize restZ x y = r at *
      generalize fi x = p at *
      generalize fi y = q at *
      go_enter Tryz.func47, Tryz.ntmps47
      go_wp2_with fail
      refine (HA.out _).mono ?_
      rintro e w' ⟨rfl, rfl⟩
      go_wp2_with fail
      refine (HB.out _).mono ?_
      rintro e w' ⟨rfl, rfl⟩
      go_wp2_with fail
      refine (HR.out _).mono ?_
      rintro e w' ⟨rfl, rfl⟩
      go_wp2
      go_ret2
      exact ⟨rfl, rfl⟩
    · rw [restP_no (.inr ey)]
      have HA := Lib.hid (fun W => rwhole_fi x hx W)
      have HB := Lib.hid (fun W => rwhole_no' t hy hm W)
      clear ha hb hx hy ex ey hm
      go_enter Tryz.func47, Tryz.ntmps47
      go_wp2_with fail
      refine (HA.out _).mono ?_
      rintro e w' ⟨rfl, rfl⟩
      go_wp2_with fail
      refine (HB.out _).mono ?_
      rintro e w' ⟨rfl, rfl⟩
      go_wp2
      go_ret2
      exact ⟨rfl, rfl⟩
  · rw [restP_no (.inl ex)]
    have HA := Lib.hid (fun W => rwhole_no' s hz hn W)
    clear ha hb hz hn ex
    go_enter Tryz.func47, Tryz.ntmps47
    go_wp2_with fail
    refine (HA.out _).mono ?_
    rintro e w' ⟨rfl, rfl⟩
    go_wp2
    go_ret2
    exact ⟨rfl, rfl⟩
end Go.Proofs.YtdddmehchfnppaaGreatDoor
namespace Go.Proofs.YtdddmehchfnppaaGreatDoor
open Go Go.RowKit Go.Proofs Fl

abbrev one : Nat := 4607182418800017408

theorem tf_eq {a b : Nat} (ha : TF a) (hb : TF b) : cmpF a b = .eq ↔ a = b := by
  constructor
  · obtain ⟨s, Z, hz, rfl, h1⟩ := ha
    obtain ⟨t, Y, hy, rfl, h2⟩ := hb
    intro h
    unfold cmpF at h
    rw [order_W s t hz hy] at h
    have hsg : sg s Z = sg t Y := by
      rcases Int.lt_trichotomy (sg s Z) (sg t Y) with h3 | h3 | h3
      · rw [cmp_lt h3] at h; cases h
      · exact h3
      · rw [cmp_gt h3] at h; cases h
    have hzy : Z = Y := by
      have e1 := natAbs_sg s Z
      have e2 := natAbs_sg t Y
      rw [hsg] at e1
      omega
    subst hzy
    by_cases h0 : Z = 0
    · rw [h1 h0, h2 h0]
    · have : s = t := by
        cases s <;> cases t <;> first | rfl | (simp [sg] at hsg; omega)
      rw [this]
  · rintro rfl
    obtain ⟨s, Z, hz, rfl, h1⟩ := ha
    unfold cmpF
    rw [order_W s s hz hz, cmp_eq]
    rfl

/-- does a relation hold? -/
def relB (f : Int) (a b : Nat) : Bool :=
  if f = 11 then cmpF a b == .lt else if f = 12 then cmpF a b != .gt else if f = 13 then cmpF a b == .eq else if f = 14 then cmpF a b != .lt else if f = 15 then cmpF a b == .gt else cmpF a b != .eq
def flagF (t : Bool) : Nat := if t then one else 0
theorem tf_flag (t : Bool) : TF (flagF t) := by cases t; exact tf_zero; exact tf_one
/-- a function of truths -/
def logB (f : Int) (x y : Bool) : Bool := if f = 21 then x && y else if f = 22 then x || y else if f = 23 then !(x && y) else !(x || y)
def isT (a : Nat) : Bool := decide (a = 0 ∨ a = one)
def tv (a : Nat) : Bool := decide (a = one)
def logP (f : Int) (a b : Nat) : Nat × Int := if isT a && isT b then (flagF (logB f (tv a) (tv b)), 0) else (0, 24)

theorem int6 {P : Int → Prop} (f : Int) (h1 : 11 ≤ f) (h2 : f ≤ 16) (a : P 11) (b : P 12) (c : P 13) (d : P 14) (e : P 15) (g : P 16) : P f := by
  have : f = 11 ∨ f = 12 ∨ f = 13 ∨ f = 14 ∨ f = 15 ∨ f = 16 := by omega
  rcases this with rfl | rfl | rfl | rfl | rfl | rfl <;> assumption
theorem int4 {P : Int → Prop} (f : Int) (h1 : 21 ≤ f) (h2 : f ≤ 24) (a : P 21) (b : P 22) (c : P 23) (d : P 24) : P f := by
  have : f = 21 ∨ f = 22 ∨ f = 23 ∨ f = 24 := by omega
  rcases this with rfl | rfl | rfl | rfl <;> assumption

set_option maxHeartbeats 2000000 in
theorem relate_any (f : Int) (hf : 11 ≤ f) (hf2 : f ≤ 16) (a b : Nat) (ha : TF a) (hb : TF b) (w : World) : Calls Tryz.prog 43 #[.int .i64 f, .float .f64 a, .float .f64 b] w fun e w' => e = .returned (.tuple #[.bool (relB f a b), .int .i64 0]) ∧ w = w' := by
  have h1 := order_tf ha hb
  refine int6 (P := fun f => Calls Tryz.prog 43 #[.int .i64 f, .float .f64 a, .float .f64 b] w fun e w' => e = .returned (.tuple #[.bool (relB f a b), .int .i64 0]) ∧ w = w') f hf hf2 ?_ ?_ ?_ ?_ ?_ ?_
  all_goals
    unfold relB
    clear ha hb hf hf2
    cases hc : cmpF a b
    all_goals
      rw [hc] at h1
      clear hc
      go_enter Tryz.func43, Tryz.ntmps43
      go_wp2
      go_ret2
      exact ⟨rfl, rfl⟩

set_option maxHeartbeats 2000000 in
theorem ref11_any (f : Int) (hf : 11 ≤ f) (hf2 : f ≤ 16) (a b : Nat) (ha : TF a) (hb : TF b) (w : World) : Calls Tryz.prog 48 #[.int .i64 f, .float .f64 a, .float .f64 b] w fun e w' => e = .returned (.tuple #[.bool (relB f a b), .int .i64 0]) ∧ w = w' := by
  have h1 := order_tf ha hb
  have h2 := order_tf hb ha
  rw [cmpF_swap ha hb] at h2
  refine int6 (P := fun f => Calls Tryz.prog 48 #[.int .i64 f, .float .f64 a, .float .f64 b] w fun e w' => e = .returned (.tuple #[.bool (relB f a b), .int .i64 0]) ∧ w = w') f hf hf2 ?_ ?_ ?_ ?_ ?_ ?_
  all_goals
    unfold relB
    clear ha hb hf hf2
    cases hc : cmpF a b
    all_goals
      rw [hc] at h1 h2
      clear hc
      simp only [Ordering.swap] at h2
      go_enter Tryz.func48, Tryz.ntmps48
      go_wp2
      go_ret2
      exact ⟨rfl, rfl⟩

set_option maxHeartbeats 2000000 in
theorem ref12_any (f : Int) (hf : 21 ≤ f) (hf2 : f ≤ 24) (x y : Bool) (w : World) : Calls Tryz.prog 50 #[.int .i64 f, .bool x, .bool y] w fun e w' => e = .returned (.tuple #[.bool (logB f x y), .int .i64 0]) ∧ w = w' := by
  refine int4 (P := fun f => Calls Tryz.prog 50 #[.int .i64 f, .bool x, .bool y] w fun e w' => e = .returned (.tuple #[.bool (logB f x y), .int .i64 0]) ∧ w = w') f hf hf2 ?_ ?_ ?_ ?_
  all_goals
    clear hf hf2
    cases x <;> cases y
    all_goals
      go_enter Tryz.func50, Tryz.ntmps50
      go_wp2
      go_ret2
      exact ⟨rfl, rfl⟩

def tabN (f : Int) : Nat := if f = 21 then 8 else if f = 22 then 14 else if f = 23 then 7 else 1
set_option maxHeartbeats 2000000 in
theorem table_any (f : Int) (hf : 21 ≤ f) (hf2 : f ≤ 24) (w : World) : Calls Tryz.prog 87 #[.int .i64 f] w fun e w' => e = .returned (.tuple #[.int .u8 (tabN f : Nat), .bool true]) ∧ w = w' := by
  refine int4 (P := fun f => Calls Tryz.prog 87 #[.int .i64 f] w fun e w' => e = .returned (.tuple #[.int .u8 (tabN f : Nat), .bool true]) ∧ w = w') f hf hf2 ?_ ?_ ?_ ?_
  all_goals
    clear hf hf2
    go_enter Tryz.func87, Tryz.ntmps87
    go_wp2
    go_ret2
    exact ⟨rfl, rfl⟩

set_option maxHeartbeats 2000000 in
theorem logic_any (f : Int) (hf : 21 ≤ f) (hf2 : f ≤ 24) (x y : Bool) (w : World) : Calls Tryz.prog 46 #[.int .i64 f, .bool x, .bool y] w fun e w' => e = .returned (.tuple #[.bool (logB f x y), .int .i64 0]) ∧ w = w' := by
  have HT := Lib.hid (fun W => table_any f hf hf2 W)
  have HF : Hid (f = 21 ∨ f = 22 ∨ f = 23 ∨ f = 24) := by show _ ∨ _; omega
  clear hf hf2
  rcases HF.out with e | e | e | e
  all_goals
    subst e
    cases x <;> cases y
    all_goals
      go_enter Tryz.func46, Tryz.ntmps46
      go_wp2_with fail
      refine (HT.out _).mono ?_
      rintro e w' ⟨rfl, rfl⟩
      go_wp2
      go_ret2
      exact ⟨rfl, rfl⟩
end Go.Proofs.YtdddmehchfnppaaGreatDoor
