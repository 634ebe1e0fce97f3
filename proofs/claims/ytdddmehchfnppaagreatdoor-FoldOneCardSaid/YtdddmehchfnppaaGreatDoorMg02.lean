/- What becomes of a reckoned number (done), in plain words; the walks of num.Tidy, done, Add, Sub, Mul, Div and of the reference's Done and Reckon. Conditions: as each theorem says. -/
import Derived.Test.YtdddmehchfnppaaGreatDoorMg01
namespace Go.Proofs.YtdddmehchfnppaaGreatDoor
open Go Go.RowKit Go.Proofs Fl

/-- a tidy number: finite, a zero without a sign -/
def TF (b : Nat) : Prop := ∃ s Z, Rep Z ∧ b = W s Z ∧ (Z = 0 → s = false)
theorem TF.lt {b : Nat} (h : TF b) : b < 18446744073709551616 := by
  obtain ⟨s, Z, hz, rfl, _⟩ := h
  exact W_lt s hz
theorem tf_zero : TF 0 := ⟨false, 0, rep_zero, W_zero.symm, fun _ => rfl⟩
theorem tf_tid (s : Bool) {Z : Nat} (hz : Rep Z) : TF (tid s Z) := by
  unfold tid
  split
  · exact tf_zero
  · rename_i h; exact ⟨s, Z, hz, rfl, fun e => absurd e h⟩
theorem tf_one : TF 4607182418800017408 := ⟨false, 1 * 2^K, rep_int K (by decide) (by unfold K; omega), by decide +kernel, fun _ => rfl⟩

/-- what done tells of a number -/
def doneP (b : Nat) : Nat × Int := match Ieee.double.read b with
  | .number _ m _ => (if m = 0 then 0 else b, 0)
  | _ => (0, 24)
theorem mg_zero {Z : Nat} (hz : Rep Z) : mg (rung Z) = 0 ↔ Z = 0 := by
  have h := mg_ex hz
  constructor
  · intro e; rw [e, Nat.zero_mul] at h; exact h.symm
  · intro e
    rw [e] at h
    rcases Nat.mul_eq_zero.1 h with h | h
    · rw [e]; exact h
    · exact absurd h (Nat.ne_of_gt (Nat.two_pow_pos _))
theorem doneP_num (s : Bool) {Z : Nat} (hz : Rep Z) : doneP (W s Z) = (tid s Z, 0) := by
  unfold doneP
  rw [read_W s hz]
  show (if mg (rung Z) = 0 then 0 else W s Z, 0) = _
  unfold tid
  by_cases h : Z = 0
  · rw [if_pos h, if_pos ((mg_zero hz).2 h)]
  · rw [if_neg h, if_neg (fun e => h ((mg_zero hz).1 e))]
theorem doneP_inf (s : Bool) : doneP (infw s) = (0, 24) := by unfold doneP; rw [read_inf]
theorem doneP_nan {b : Nat} (h : (Ieee.double.read b).isNaN = true) : doneP b = (0, 24) := by
  unfold doneP
  cases hd : Ieee.double.read b <;> rw [hd] at h <;> first | rfl | cases h
theorem doneP_cases {b : Nat} (hb : b < 18446744073709551616) : (∃ c, TF c ∧ doneP b = (c, 0)) ∨ doneP b = (0, 24) := by
  rcases classify b hb with ⟨s, Z, hz, rfl⟩ | ⟨s, rfl⟩ | h
  · exact .inl ⟨_, tf_tid s hz, doneP_num s hz⟩
  · exact .inr (doneP_inf s)
  · exact .inr (doneP_nan h)
theorem doneP_tf {b : Nat} (h : TF b) : doneP b = (b, 0) := by
  obtain ⟨s, Z, hz, rfl, h0⟩ := h
  rw [doneP_num s hz]
  unfold tid
  split
  · rename_i e; rw [e, h0 e, W_zero]
  · rfl

theorem inf_gt_top : FloatKind.f64.format.order (infw false) 9218868437227405311 = some .gt := by rw [← W_top]; exact fo_inf false false rep_top
theorem inf_lt_ntop : FloatKind.f64.format.order (infw true) 18442240474082181119 = some .lt := by rw [← W_ntop]; exact fo_inf true true rep_top
theorem inf_lt_top : FloatKind.f64.format.order (infw true) 9218868437227405311 = some .lt := by rw [← W_top]; exact fo_inf true false rep_top

set_option maxHeartbeats 400000 in
theorem ntidy_bad {b : Nat} (h : (∃ s, b = infw s) ∨ (Ieee.double.read b).isNaN = true) (w : World) :
    Calls Tryz.prog 60 #[.float .f64 b] w fun e w' => e = .returned (.tuple #[.float .f64 0, .bool false]) ∧ w = w' := by
  rcases h with ⟨s, rfl⟩ | h
  · have h1 := fo_infinf s
    cases s
    · have h2 := inf_gt_top
      generalize infw false = b at *
      go_enter Tryz.func60, Tryz.ntmps60
      go_wp2
      go_ret2
      exact ⟨rfl, rfl⟩
    · have h2 := inf_lt_ntop
      have h3 := inf_lt_top
      generalize infw true = b at *
      go_enter Tryz.func60, Tryz.ntmps60
      go_wp2
      go_ret2
      exact ⟨rfl, rfl⟩
  · have h1 := fo_nan b h
    clear h
    go_enter Tryz.func60, Tryz.ntmps60
    go_wp2
    go_ret2
    exact ⟨rfl, rfl⟩

set_option maxHeartbeats 400000 in
theorem done_any (b : Nat) (hb : b < 18446744073709551616) (w : World) : Calls Tryz.prog 116 #[.float .f64 b] w fun e w' => e = .returned (.tuple #[.float .f64 (doneP b).1, .int .i64 (doneP b).2]) ∧ w = w' := by
  rcases classify b hb with ⟨s, Z, hz, rfl⟩ | h
  · rw [doneP_num s hz]
    have HT := Lib.hid (fun W => ntidy_num s hz W)
    clear hz
    go_enter Tryz.func116, Tryz.ntmps116
    go_wp2_with fail
    refine (HT.out _).mono ?_
    rintro e w' ⟨rfl, rfl⟩
    go_wp2
    go_ret2
    exact ⟨rfl, rfl⟩
  · have e : doneP b = (0, 24) := by rcases h with ⟨s, rfl⟩ | h; exact doneP_inf s; exact doneP_nan h
    rw [e]
    have HT := Lib.hid (fun W => ntidy_bad h W)
    clear e h
    go_enter Tryz.func116, Tryz.ntmps116
    go_wp2_with fail
    refine (HT.out _).mono ?_
    rintro e w' ⟨rfl, rfl⟩
    go_wp2
    go_ret2
    exact ⟨rfl, rfl⟩
set_option maxHeartbeats 400000 in
theorem rdone_any (b : Nat) (hb : b < 18446744073709551616) (w : World) : Calls Tryz.prog 118 #[.float .f64 b] w fun e w' => e = .returned (.tuple #[.float .f64 (doneP b).1, .int .i64 (doneP b).2]) ∧ w = w' := by
  rcases classify b hb with ⟨s, Z, hz, rfl⟩ | h
  · rw [doneP_num s hz]
    have HT := Lib.hid (fun W => rtidy_num s hz W)
    clear hz
    go_enter Tryz.func118, Tryz.ntmps118
    go_wp2_with fail
    refine (HT.out _).mono ?_
    rintro e w' ⟨rfl, rfl⟩
    go_wp2
    go_ret2
    exact ⟨rfl, rfl⟩
  · have e : doneP b = (0, 24) := by rcases h with ⟨s, rfl⟩ | h; exact doneP_inf s; exact doneP_nan h
    rw [e]
    have HT := Lib.hid (fun W => rtidy_bad h W)
    clear e h
    go_enter Tryz.func118, Tryz.ntmps118
    go_wp2_with fail
    refine (HT.out _).mono ?_
    rintro e w' ⟨rfl, rfl⟩
    go_wp2
    go_ret2
    exact ⟨rfl, rfl⟩

/-- the operation's result, where it has one -/
def opB (op : BinOp) (a b : Nat) : Nat := (floatBits op .f64 a b).getD 0
theorem opB_of {op : BinOp} {a b c : Nat} (h : floatBits op .f64 a b = some c) : floatBits op .f64 a b = some (opB op a b) ∧ opB op a b < 18446744073709551616 := by
  have e : opB op a b = c := by unfold opB; rw [h]; rfl
  rw [e]
  exact ⟨h, by simpa [Lit.wf] using floatBits_wf h⟩
theorem opB_some {op : BinOp} {a b : Nat} (h : (floatBits op .f64 a b).isSome = true) : floatBits op .f64 a b = some (opB op a b) ∧ opB op a b < 18446744073709551616 := by
  obtain ⟨c, hc⟩ := Option.isSome_iff_exists.1 h
  exact opB_of hc
theorem read_tf {b : Nat} (h : TF b) : ∃ s m i, Ieee.double.read b = .number s m i ∧ (m = 0 → b = 0) := by
  obtain ⟨s, Z, hz, rfl, h0⟩ := h
  refine ⟨s, _, _, read_W s hz, fun e => ?_⟩
  have e0 := (mg_zero hz).1 e
  rw [e0, h0 e0, W_zero]
theorem add_tot {a b : Nat} (ha : TF a) (hb : TF b) : floatBits .add .f64 a b = some (opB .add a b) ∧ opB .add a b < 18446744073709551616 := by
  obtain ⟨s, m, i, h1, _⟩ := read_tf ha
  obtain ⟨t, n, j, h2, _⟩ := read_tf hb
  refine opB_some ?_
  show (((Ieee.double.read a).sum (Ieee.double.read b)).map Ieee.double.write).isSome = true
  rw [h1, h2]
  rfl
theorem sub_tot {a b : Nat} (ha : TF a) (hb : TF b) : floatBits .sub .f64 a b = some (opB .sub a b) ∧ opB .sub a b < 18446744073709551616 := by
  obtain ⟨s, m, i, h1, _⟩ := read_tf ha
  obtain ⟨t, n, j, h2, _⟩ := read_tf hb
  refine opB_some ?_
  show (((Ieee.double.read a).sum (Ieee.double.read b).opposite).map Ieee.double.write).isSome = true
  rw [h1, h2]
  rfl
theorem mul_tot {a b : Nat} (ha : TF a) (hb : TF b) : floatBits .mul .f64 a b = some (opB .mul a b) ∧ opB .mul a b < 18446744073709551616 := by
  obtain ⟨s, m, i, h1, _⟩ := read_tf ha
  obtain ⟨t, n, j, h2, _⟩ := read_tf hb
  refine opB_some ?_
  show (((Ieee.double.read a).product (Ieee.double.read b)).map Ieee.double.write).isSome = true
  rw [h1, h2]
  rfl
theorem div_tot {a b : Nat} (ha : TF a) (hb : TF b) (h0 : b ≠ 0) : floatBits .quo .f64 a b = some (opB .quo a b) ∧ opB .quo a b < 18446744073709551616 := by
  obtain ⟨s, m, i, h1, _⟩ := read_tf ha
  obtain ⟨t, n, j, h2, h3⟩ := read_tf hb
  refine opB_some ?_
  show ((Ieee.Datum.quotient (Ieee.double.fractionBits + 2) (Ieee.double.read a) (Ieee.double.read b)).map Ieee.double.write).isSome = true
  rw [h1, h2]
  unfold Ieee.Datum.quotient
  dsimp only
  rw [if_neg (fun e => h0 (h3 e))]
  rfl

theorem tf_eq_zero {b : Nat} (h : TF b) : FloatKind.f64.format.order b 0 = some (if b = 0 then .eq else if (Ieee.double.order b 0) = some .lt then .lt else .gt) := by
  obtain ⟨s, Z, hz, rfl, h0⟩ := h
  have h1 := order_W s false hz rep_zero
  rw [W_zero, sg_zero] at h1
  show Ieee.double.order (W s Z) 0 = _
  by_cases e : Z = 0
  · rw [e, h0 e, W_zero, if_pos rfl]; decide
  · have hne : W s Z ≠ 0 := by
      intro e2
      have h2 := read_W s hz
      rw [e2] at h2
      have h3 : Ieee.double.read 0 = .number false 0 (-1074) := by decide
      rw [h3] at h2
      injection h2 with _ h4 _
      exact e ((mg_zero hz).1 h4.symm)
    rw [if_neg hne, h1]
    rcases Int.lt_trichotomy (sg s Z) 0 with h | h | h
    · rw [cmp_lt h]; rfl
    · exact absurd (sg_eq_zero.1 h) e
    · rw [cmp_gt h]; rfl

set_option maxHeartbeats 400000 in
theorem nadd_any (a b : Nat) (ha : TF a) (hb : TF b) (w : World) : Calls Tryz.prog 79 #[.float .f64 a, .float .f64 b] w fun e w' => e = .returned (.tuple #[.float .f64 (doneP (opB .add a b)).1, .int .i64 (doneP (opB .add a b)).2]) ∧ w = w' := by
  obtain ⟨h1, h2⟩ := add_tot ha hb
  have hop := fun w => run_float_arith (P := Tryz.prog) w .add 47 .f64 _ _ _ h1
  have HD := Lib.hid (fun W => done_any _ h2 W)
  clear h1 h2 ha hb
  generalize opB .add a b = c at *
  go_enter Tryz.func79, Tryz.ntmps79
  go_wp2_with fail
  refine (HD.out _).mono ?_
  rintro e w' ⟨rfl, rfl⟩
  go_wp2
  go_ret2
  exact ⟨rfl, rfl⟩

set_option maxHeartbeats 400000 in
theorem nsub_any (a b : Nat) (ha : TF a) (hb : TF b) (w : World) : Calls Tryz.prog 80 #[.float .f64 a, .float .f64 b] w fun e w' => e = .returned (.tuple #[.float .f64 (doneP (opB .sub a b)).1, .int .i64 (doneP (opB .sub a b)).2]) ∧ w = w' := by
  obtain ⟨h1, h2⟩ := sub_tot ha hb
  have hop := fun w => run_float_arith (P := Tryz.prog) w .sub 47 .f64 _ _ _ h1
  have HD := Lib.hid (fun W => done_any _ h2 W)
  clear h1 h2 ha hb
  generalize opB .sub a b = c at *
  go_enter Tryz.func80, Tryz.ntmps80
  go_wp2_with fail
  refine (HD.out _).mono ?_
  rintro e w' ⟨rfl, rfl⟩
  go_wp2
  go_ret2
  exact ⟨rfl, rfl⟩

set_option maxHeartbeats 400000 in
theorem nmul_any (a b : Nat) (ha : TF a) (hb : TF b) (w : World) : Calls Tryz.prog 81 #[.float .f64 a, .float .f64 b] w fun e w' => e = .returned (.tuple #[.float .f64 (doneP (opB .mul a b)).1, .int .i64 (doneP (opB .mul a b)).2]) ∧ w = w' := by
  obtain ⟨h1, h2⟩ := mul_tot ha hb
  have hop := fun w => run_float_arith (P := Tryz.prog) w .mul 47 .f64 _ _ _ h1
  have HD := Lib.hid (fun W => done_any _ h2 W)
  clear h1 h2 ha hb
  generalize opB .mul a b = c at *
  go_enter Tryz.func81, Tryz.ntmps81
  go_wp2_with fail
  refine (HD.out _).mono ?_
  rintro e w' ⟨rfl, rfl⟩
  go_wp2
  go_ret2
  exact ⟨rfl, rfl⟩

/-- what a division tells -/
def divP (a b : Nat) : Nat × Int := if b = 0 then (if a = 0 then (4607182418800017408, 0) else (0, 24)) else doneP (opB .quo a b)
theorem tf_is_zero {b : Nat} (h : TF b) : (FloatKind.f64.format.order b 0 == some .eq) = decide (b = 0) := by
  rw [tf_eq_zero h]
  by_cases e : b = 0
  · rw [if_pos e, decide_eq_true e]; rfl
  · rw [if_neg e, decide_eq_false e]; split <;> rfl

set_option maxHeartbeats 400000 in
theorem ndiv_any (a b : Nat) (ha : TF a) (hb : TF b) (w : World) : Calls Tryz.prog 82 #[.float .f64 a, .float .f64 b] w fun e w' => e = .returned (.tuple #[.float .f64 (divP a b).1, .int .i64 (divP a b).2]) ∧ w = w' := by
  have z1 := tf_is_zero ha
  have z2 := tf_is_zero hb
  unfold divP
  by_cases hb0 : b = 0
  · rw [if_pos hb0]
    rw [decide_eq_true hb0] at z2
    have z2' := beq_iff_eq.1 z2
    by_cases ha0 : a = 0
    · rw [if_pos ha0]
      rw [decide_eq_true ha0] at z1
      have z1' := beq_iff_eq.1 z1
      clear hb0 ha0 ha hb
      go_enter Tryz.func82, Tryz.ntmps82
      go_wp2
      go_ret2
      exact ⟨rfl, rfl⟩
    · rw [if_neg ha0]
      rw [decide_eq_false ha0] at z1
      have z1' := beq_eq_false_iff_ne.1 z1
      clear hb0 ha0 ha hb
      go_enter Tryz.func82, Tryz.ntmps82
      go_wp2
      go_ret2
      exact ⟨rfl, rfl⟩
  · rw [if_neg hb0]
    rw [decide_eq_false hb0] at z2
    have z2' := beq_eq_false_iff_ne.1 z2
    obtain ⟨h1, h2⟩ := div_tot ha hb hb0
    have hop := fun w => run_float_arith (P := Tryz.prog) w .quo 47 .f64 _ _ _ h1
    have HD := Lib.hid (fun W => done_any _ h2 W)
    clear h1 h2 ha hb hb0 z1
    generalize opB .quo a b = c at *
    go_enter Tryz.func82, Tryz.ntmps82
    go_wp2_with fail
    refine (HD.out _).mono ?_
    rintro e w' ⟨rfl, rfl⟩
    go_wp2
    go_ret2
    exact ⟨rfl, rfl⟩

set_option maxHeartbeats 400000 in
theorem reckon_add (a b : Nat) (ha : TF a) (hb : TF b) (w : World) : Calls Tryz.prog 88 #[.int .i64 0, .float .f64 a, .float .f64 b] w fun e w' => e = .returned (.tuple #[.float .f64 (doneP (opB .add a b)).1, .int .i64 (doneP (opB .add a b)).2]) ∧ w = w' := by
  obtain ⟨h1, h2⟩ := add_tot ha hb
  have hop := fun w => run_float_arith (P := Tryz.prog) w .add 47 .f64 _ _ _ h1
  have HD := Lib.hid (fun W => rdone_any _ h2 W)
  clear h1 h2 ha hb
  generalize opB .add a b = c at *
  go_enter Tryz.func88, Tryz.ntmps88
  go_wp2_with fail
  refine (HD.out _).mono ?_
  rintro e w' ⟨rfl, rfl⟩
  go_wp2
  go_ret2
  exact ⟨rfl, rfl⟩

set_option maxHeartbeats 400000 in
theorem reckon_sub (a b : Nat) (ha : TF a) (hb : TF b) (w : World) : Calls Tryz.prog 88 #[.int .i64 1, .float .f64 a, .float .f64 b] w fun e w' => e = .returned (.tuple #[.float .f64 (doneP (opB .sub a b)).1, .int .i64 (doneP (opB .sub a b)).2]) ∧ w = w' := by
  obtain ⟨h1, h2⟩ := sub_tot ha hb
  have hop := fun w => run_float_arith (P := Tryz.prog) w .sub 47 .f64 _ _ _ h1
  have HD := Lib.hid (fun W => rdone_any _ h2 W)
  clear h1 h2 ha hb
  generalize opB .sub a b = c at *
  go_enter Tryz.func88, Tryz.ntmps88
  go_wp2_with fail
  refine (HD.out _).mono ?_
  rintro e w' ⟨rfl, rfl⟩
  go_wp2
  go_ret2
  exact ⟨rfl, rfl⟩

set_option maxHeartbeats 400000 in
theorem reckon_mul (a b : Nat) (ha : TF a) (hb : TF b) (w : World) : Calls Tryz.prog 88 #[.int .i64 2, .float .f64 a, .float .f64 b] w fun e w' => e = .returned (.tuple #[.float .f64 (doneP (opB .mul a b)).1, .int .i64 (doneP (opB .mul a b)).2]) ∧ w = w' := by
  obtain ⟨h1, h2⟩ := mul_tot ha hb
  have hop := fun w => run_float_arith (P := Tryz.prog) w .mul 47 .f64 _ _ _ h1
  have HD := Lib.hid (fun W => rdone_any _ h2 W)
  clear h1 h2 ha hb
  generalize opB .mul a b = c at *
  go_enter Tryz.func88, Tryz.ntmps88
  go_wp2_with fail
  refine (HD.out _).mono ?_
  rintro e w' ⟨rfl, rfl⟩
  go_wp2
  go_ret2
  exact ⟨rfl, rfl⟩
set_option maxHeartbeats 400000 in
theorem reckon_div (a b : Nat) (ha : TF a) (hb : TF b) (w : World) : Calls Tryz.prog 88 #[.int .i64 3, .float .f64 a, .float .f64 b] w fun e w' => e = .returned (.tuple #[.float .f64 (divP a b).1, .int .i64 (divP a b).2]) ∧ w = w' := by
  have z1 := tf_is_zero ha
  have z2 := tf_is_zero hb
  unfold divP
  by_cases hb0 : b = 0
  · rw [if_pos hb0]
    rw [decide_eq_true hb0] at z2
    have z2' := beq_iff_eq.1 z2
    by_cases ha0 : a = 0
    · rw [if_pos ha0]
      rw [decide_eq_true ha0] at z1
      have z1' := beq_iff_eq.1 z1
      clear hb0 ha0 ha hb
      go_enter Tryz.func88, Tryz.ntmps88
      go_wp2
      go_ret2
      exact ⟨rfl, rfl⟩
    · rw [if_neg ha0]
      rw [decide_eq_false ha0] at z1
      have z1' := beq_eq_false_iff_ne.1 z1
      clear hb0 ha0 ha hb
      go_enter Tryz.func88, Tryz.ntmps88
      go_wp2
      go_ret2
      exact ⟨rfl, rfl⟩
  · rw [if_neg hb0]
    rw [decide_eq_false hb0] at z2
    have z2' := beq_eq_false_iff_ne.1 z2
    obtain ⟨h1, h2⟩ := div_tot ha hb hb0
    have hop := fun w => run_float_arith (P := Tryz.prog) w .quo 47 .f64 _ _ _ h1
    have HD := Lib.hid (fun W => rdone_any _ h2 W)
    clear h1 h2 ha hb hb0
    generalize opB .quo a b = c at *
    generalize doneP c = d at *
    rcases Bool.eq_false_or_eq_true (decide (a = 0)) with hz | hz
    all_goals
      rw [hz] at z1
      first | have z1' := beq_iff_eq.1 z1 | have z1' := beq_eq_false_iff_ne.1 z1
      clear hz
      go_enter Tryz.func88, Tryz.ntmps88
      go_wp2_with fail
      refine (HD.out _).mono ?_
      rintro e w' ⟨rfl, rfl⟩
      go_wp2
      go_ret2
      exact ⟨rfl, rfl⟩
end Go.Proofs.YtdddmehchfnppaaGreatDoor
