/- Merged texts. The walks of fold.One and of the reference's One of layer 13: both tell the same, whatever the powers are. Conditions: as each theorem says. Packed truths: words of bits, in plain words; the walks of Len and At. Conditions: as each theorem says. -/
import Derived.Test.YtdddmehchfnppaaGreatDoorMg12
import Derived.Laws.BitsAllLaws
namespace Go.Proofs.YtdddmehchfnppaaGreatDoor
open Go Go.RowKit Go.Proofs Fl

set_option maxHeartbeats 400000 in
theorem flag_any (t : Bool) (w : World) : Calls Tryz.prog 44 #[.bool t] w fun e w' => e = .returned (.float .f64 (flagF t)) ∧ w = w' := by
  cases t
  all_goals
    go_enter Tryz.func44, Tryz.ntmps44
    go_wp2
    go_ret
    exact ⟨rfl, rfl⟩
set_option maxHeartbeats 400000 in
theorem rflag_any (t : Bool) (w : World) : Calls Tryz.prog 49 #[.bool t] w fun e w' => e = .returned (.float .f64 (flagF t)) ∧ w = w' := by
  cases t
  all_goals
    go_enter Tryz.func49, Tryz.ntmps49
    go_wp2
    go_ret
    exact ⟨rfl, rfl⟩

/-- what a test of a truth asks -/
structure TruthF (a : Nat) (z o : Bool) : Prop where
  e0 : (FloatKind.f64.format.order a 0 == some .eq) = z
  e1 : (FloatKind.f64.format.order a 4607182418800017408 == some .eq) = o
  n0 : (FloatKind.f64.format.order a 0 != some .eq) = !z
  n1 : (FloatKind.f64.format.order a 4607182418800017408 != some .eq) = !o
  tz : z = decide (a = 0)
  tone : o = decide (a = one)
theorem truthF {a : Nat} (h : TF a) : ∃ z o, TruthF a z o := by
  have h0 : (FloatKind.f64.format.order a 0 == some .eq) = decide (a = 0) := tf_is_zero h
  have h1 : (FloatKind.f64.format.order a 4607182418800017408 == some .eq) = decide (a = one) := by
    rw [order_tf h tf_one, Bool.eq_iff_iff]
    rw [beq_iff_eq, decide_eq_true_eq]
    constructor
    · intro e; injection e with e; exact (tf_eq h tf_one).1 e
    · intro e; rw [(tf_eq h tf_one).2 e]
  exact ⟨_, _, h0, h1, by rw [bne, h0], by rw [bne, h1], rfl, rfl⟩
theorem beq_of {p : Option Ordering} (h : (p == some .eq) = true) : p = some .eq := beq_iff_eq.1 h
theorem bne_of {p : Option Ordering} (h : (p == some .eq) = false) : ¬ p = some .eq := beq_eq_false_iff_ne.1 h

set_option maxHeartbeats 400000 in
theorem truth_any (a : Nat) (h : TF a) (w : World) : Calls Tryz.prog 45 #[.float .f64 a] w fun e w' => e = .returned (.tuple #[.bool (tv a), .bool (isT a)]) ∧ w = w' := by
  obtain ⟨z, o, h0, h1, h2, h3, hz, ho⟩ := truthF h
  have ht : tv a = o := ho.symm
  have hi : isT a = (z || o) := by rw [hz, ho]; unfold isT; rw [Bool.decide_or]
  rw [ht, hi]
  clear h ht hi hz ho
  cases z <;> cases o
  all_goals
    first | have h0' := beq_of h0 | have h0' := bne_of h0
    first | have h1' := beq_of h1 | have h1' := bne_of h1
    go_enter Tryz.func45, Tryz.ntmps45
    go_wp2
    go_ret2
    exact ⟨rfl, rfl⟩

/-- what a function of two numbers tells; pw: what powers tell -/
noncomputable def oneP (pw : Nat → Nat → Nat × Int) (f : Int) (a b : Nat) : Nat × Int :=
  if f = 1 then doneP (opB .add a b) else if f = 2 then doneP (opB .sub a b) else if f = 3 then doneP (opB .mul a b) else if f = 4 then divP a b
  else if f = 5 then (maxP a b, 0) else if f = 6 then (minP a b, 0) else if f = 7 then restP a b else if f = 8 then pw a b
  else if 11 ≤ f ∧ f ≤ 16 then (flagF (relB f a b), 0) else logP f a b

/-- raising to a power tells pw, both in the program and in the reference -/
structure PowIs (pw : Nat → Nat → Nat × Int) : Prop where
  prog : ∀ a b, TF a → TF b → ∀ W, Calls Tryz.prog 86 #[.float .f64 a, .float .f64 b] W fun e w' => e = .returned (.tuple #[.float .f64 (pw a b).1, .int .i64 (pw a b).2]) ∧ W = w'
  ref : ∀ a b, TF a → TF b → ∀ W, Calls Tryz.prog 91 #[.float .f64 a, .float .f64 b] W fun e w' => e = .returned (.tuple #[.float .f64 (pw a b).1, .int .i64 (pw a b).2]) ∧ W = w'
  tf : ∀ a b, TF a → TF b → (∃ c, TF c ∧ pw a b = (c, 0)) ∨ pw a b = (0, 24)

set_option maxHeartbeats 400000 in
theorem arith_8 {pw : Nat → Nat → Nat × Int} (hp : PowIs pw) (a b : Nat) (ha : TF a) (hb : TF b) (w : World) : Calls Tryz.prog 42 #[.int .i64 8, .float .f64 a, .float .f64 b] w fun e w' => e = .returned (.tuple #[.float .f64 (pw a b).1, .int .i64 (pw a b).2]) ∧ w = w' := by
  have HC := Lib.hid (fun W => hp.prog a b ha hb W)
  clear ha hb hp
  generalize pw a b = d at *
  go_enter Tryz.func42, Tryz.ntmps42
  go_wp2_with fail
  refine (HC.out _).mono ?_
  rintro e w' ⟨rfl, rfl⟩
  go_wp2
  go_ret2
  exact ⟨rfl, rfl⟩
set_option maxHeartbeats 400000 in
theorem ref10_8 {pw : Nat → Nat → Nat × Int} (hp : PowIs pw) (a b : Nat) (ha : TF a) (hb : TF b) (w : World) : Calls Tryz.prog 47 #[.int .i64 8, .float .f64 a, .float .f64 b] w fun e w' => e = .returned (.tuple #[.float .f64 (pw a b).1, .int .i64 (pw a b).2]) ∧ w = w' := by
  have HC := Lib.hid (fun W => hp.ref a b ha hb W)
  clear ha hb hp
  generalize pw a b = d at *
  go_enter Tryz.func47, Tryz.ntmps47
  go_wp2_with fail
  refine (HC.out _).mono ?_
  rintro e w' ⟨rfl, rfl⟩
  go_wp2
  go_ret2
  exact ⟨rfl, rfl⟩

theorem int8 {P : Int → Prop} (f : Int) (h1 : 1 ≤ f) (h2 : f ≤ 8) (a : P 1) (b : P 2) (c : P 3) (d : P 4) (e : P 5) (g : P 6) (h : P 7) (i : P 8) : P f := by
  have : f = 1 ∨ f = 2 ∨ f = 3 ∨ f = 4 ∨ f = 5 ∨ f = 6 ∨ f = 7 ∨ f = 8 := by omega
  rcases this with rfl | rfl | rfl | rfl | rfl | rfl | rfl | rfl <;> assumption
theorem arith_any {pw : Nat → Nat → Nat × Int} (hp : PowIs pw) (f : Int) (hf : 1 ≤ f) (hf2 : f ≤ 8) (a b : Nat) (ha : TF a) (hb : TF b) (w : World) : Calls Tryz.prog 42 #[.int .i64 f, .float .f64 a, .float .f64 b] w fun e w' => e = .returned (.tuple #[.float .f64 (oneP pw f a b).1, .int .i64 (oneP pw f a b).2]) ∧ w = w' :=
  int8 (P := fun f => Calls Tryz.prog 42 #[.int .i64 f, .float .f64 a, .float .f64 b] w fun e w' => e = .returned (.tuple #[.float .f64 (oneP pw f a b).1, .int .i64 (oneP pw f a b).2]) ∧ w = w') f hf hf2
    (arith_1 a b ha hb w) (arith_2 a b ha hb w) (arith_3 a b ha hb w) (arith_4 a b ha hb w) (arith_5 a b ha hb w) (arith_6 a b ha hb w) (arith_7 a b ha hb w) (arith_8 hp a b ha hb w)
theorem ref10_any {pw : Nat → Nat → Nat × Int} (hp : PowIs pw) (f : Int) (hf : 1 ≤ f) (hf2 : f ≤ 8) (a b : Nat) (ha : TF a) (hb : TF b) (w : World) : Calls Tryz.prog 47 #[.int .i64 f, .float .f64 a, .float .f64 b] w fun e w' => e = .returned (.tuple #[.float .f64 (oneP pw f a b).1, .int .i64 (oneP pw f a b).2]) ∧ w = w' :=
  int8 (P := fun f => Calls Tryz.prog 47 #[.int .i64 f, .float .f64 a, .float .f64 b] w fun e w' => e = .returned (.tuple #[.float .f64 (oneP pw f a b).1, .int .i64 (oneP pw f a b).2]) ∧ w = w') f hf hf2
    (ref10_1 a b ha hb w) (ref10_2 a b ha hb w) (ref10_3 a b ha hb w) (ref10_4 a b ha hb w) (ref10_5 a b ha hb w) (ref10_6 a b ha hb w) (ref10_7 a b ha hb w) (ref10_8 hp a b ha hb w)

theorem oneP_rel {pw : Nat → Nat → Nat × Int} {f : Int} (h1 : 11 ≤ f) (h2 : f ≤ 16) (a b : Nat) : oneP pw f a b = (flagF (relB f a b), 0) := by
  unfold oneP
  rw [if_neg (by omega), if_neg (by omega), if_neg (by omega), if_neg (by omega), if_neg (by omega), if_neg (by omega), if_neg (by omega), if_neg (by omega), if_pos ⟨h1, h2⟩]
theorem oneP_log {pw : Nat → Nat → Nat × Int} {f : Int} (h1 : 21 ≤ f) (a b : Nat) : oneP pw f a b = logP f a b := by
  unfold oneP
  rw [if_neg (by omega), if_neg (by omega), if_neg (by omega), if_neg (by omega), if_neg (by omega), if_neg (by omega), if_neg (by omega), if_neg (by omega), if_neg (by omega)]
theorem logP_yes {f : Int} {a b : Nat} (h : (isT a && isT b) = true) : logP f a b = (flagF (logB f (tv a) (tv b)), 0) := if_pos h
theorem logP_no {f : Int} {a b : Nat} (h : (isT a && isT b) = false) : logP f a b = (0, 24) := if_neg (by rw [h]; decide)

set_option maxRecDepth 100000 in
set_option maxHeartbeats 1000000 in
theorem one_any {pw : Nat → Nat → Nat × Int} (hp : PowIs pw) (f : Int) (hk : knownB f = true) (a b : Nat) (ha : TF a) (hb : TF b) (w : World) : Calls Tryz.prog 22 #[.int .i64 f, .float .f64 a, .float .f64 b] w fun e w' => e = .returned (.tuple #[.float .f64 (oneP pw f a b).1, .int .i64 (oneP pw f a b).2]) ∧ w = w' := by
  unfold knownB at hk
  rw [decide_eq_true_eq] at hk
  rcases hk with ⟨h1, h2⟩ | ⟨h1, h2⟩ | ⟨h1, h2⟩
  · have HC := Lib.hid (fun W => arith_any hp f h1 h2 a b ha hb W)
    clear ha hb hp
    generalize oneP pw f a b = d at *
    go_enter Tryz.func22, Tryz.ntmps22
    go_wp2_with fail
    refine (HC.out _).mono ?_
    rintro e w' ⟨rfl, rfl⟩
    go_wp2
    go_ret2
    exact ⟨rfl, rfl⟩
  · rw [oneP_rel h1 h2]
    have HC := Lib.hid (fun W => relate_any f h1 h2 a b ha hb W)
    have h3 : ¬ f ≤ 8 := by omega
    have h4 : 1 ≤ f := by omega
    clear ha hb hp
    generalize relB f a b = t at *
    go_enter Tryz.func22, Tryz.ntmps22
    go_wp2_with fail
    refine (HC.out _).mono ?_
    rintro e w' ⟨rfl, rfl⟩
    go_wp2_with fail
    refine (flag_any _ _).mono ?_
    rintro e w' ⟨rfl, rfl⟩
    go_wp2
    go_ret2
    exact ⟨rfl, rfl⟩
  · rw [oneP_log h1]
    have HA := Lib.hid (fun W => truth_any a ha W)
    have HB := Lib.hid (fun W => truth_any b hb W)
    have HL := Lib.hid (fun x y W => logic_any f h1 h2 x y W)
    have h3 : ¬ f ≤ 8 := by omega
    have h4 : ¬ f ≤ 16 := by omega
    have h5 : 1 ≤ f := by omega
    have h6 : 11 ≤ f := by omega
    clear ha hb hp
    by_cases hi : (isT a && isT b) = true
    · rw [logP_yes hi]
      rw [Bool.and_eq_true] at hi
      rw [hi.1] at HA
      rw [hi.2] at HB
      clear hi
      generalize tv a = x at *
      generalize tv b = y at *
      have HL2 := Lib.hid (HL.out x y)
      clear HL
      generalize logB f x y = t at *
      go_enter Tryz.func22, Tryz.ntmps22
      go_wp2_with fail
      refine (HA.out _).mono ?_
      rintro e w' ⟨rfl, rfl⟩
      go_wp2_with fail
      refine (HB.out _).mono ?_
      rintro e w' ⟨rfl, rfl⟩
      go_wp2_with fail
      refine (HL2.out _).mono ?_
      rintro e w' ⟨rfl, rfl⟩
      go_wp2_with fail
      refine (flag_any _ _).mono ?_
      rintro e w' ⟨rfl, rfl⟩
      go_wp2
      go_ret2
      exact ⟨rfl, rfl⟩
    · have hi' : (isT a && isT b) = false := by simpa using hi
      rw [logP_no hi']
      clear hi HL
      generalize tv a = x at *
      generalize tv b = y at *
      generalize isT a = p at *
      generalize isT b = q at *
      cases p <;> cases q <;> simp at hi'
      all_goals
        go_enter Tryz.func22, Tryz.ntmps22
        go_wp2_with fail
        refine (HA.out _).mono ?_
        rintro e w' ⟨rfl, rfl⟩
        go_wp2_with fail
        refine (HB.out _).mono ?_
        rintro e w' ⟨rfl, rfl⟩
        go_wp2
        go_ret2
        exact ⟨rfl, rfl⟩

set_option maxRecDepth 100000 in
set_option maxHeartbeats 1000000 in
theorem rone_any {pw : Nat → Nat → Nat × Int} (hp : PowIs pw) (f : Int) (hk : knownB f = true) (a b : Nat) (ha : TF a) (hb : TF b) (w : World) : Calls Tryz.prog 23 #[.int .i64 f, .float .f64 a, .float .f64 b] w fun e w' => e = .returned (.tuple #[.float .f64 (oneP pw f a b).1, .int .i64 (oneP pw f a b).2]) ∧ w = w' := by
  have HK := Lib.hid (fun W => hk ▸ rknown_any f W)
  unfold knownB at hk
  rw [decide_eq_true_eq] at hk
  rcases hk with ⟨h1, h2⟩ | ⟨h1, h2⟩ | ⟨h1, h2⟩
  · have HC := Lib.hid (fun W => ref10_any hp f h1 h2 a b ha hb W)
    clear ha hb hp
    generalize oneP pw f a b = d at *
    go_enter Tryz.func23, Tryz.ntmps23
    go_wp2_with fail
    refine (HK.out _).mono ?_
    rintro e w' ⟨rfl, rfl⟩
    go_wp2_with fail
    refine (HC.out _).mono ?_
    rintro e w' ⟨rfl, rfl⟩
    go_wp2
    go_ret2
    exact ⟨rfl, rfl⟩
  · rw [oneP_rel h1 h2]
    have HC := Lib.hid (fun W => ref11_any f h1 h2 a b ha hb W)
    have h3 : ¬ f ≤ 8 := by omega
    clear ha hb hp
    generalize relB f a b = t at *
    go_enter Tryz.func23, Tryz.ntmps23
    go_wp2_with fail
    refine (HK.out _).mono ?_
    rintro e w' ⟨rfl, rfl⟩
    go_wp2_with fail
    refine (HC.out _).mono ?_
    rintro e w' ⟨rfl, rfl⟩
    go_wp2_with fail
    refine (rflag_any _ _).mono ?_
    rintro e w' ⟨rfl, rfl⟩
    go_wp2
    go_ret2
    exact ⟨rfl, rfl⟩
  · rw [oneP_log h1]
    obtain ⟨z, o, a0, a1, a2, a3, hz, ho⟩ := truthF ha
    obtain ⟨z2, o2, b0, b1, b2, b3, hz2, ho2⟩ := truthF hb
    have HL := Lib.hid (fun x y W => ref12_any f h1 h2 x y W)
    have h3 : ¬ f ≤ 8 := by omega
    have h4 : ¬ f ≤ 16 := by omega
    have et : tv a = o := ho.symm
    have ei : isT a = (z || o) := by rw [hz, ho]; unfold isT; rw [Bool.decide_or]
    have et2 : tv b = o2 := ho2.symm
    have ei2 : isT b = (z2 || o2) := by rw [hz2, ho2]; unfold isT; rw [Bool.decide_or]
    have hno : ¬ (z = true ∧ o = true) := by
      rintro ⟨e1, e2⟩
      rw [hz, decide_eq_true_eq] at e1
      rw [ho, decide_eq_true_eq, e1] at e2
      exact absurd e2 (by decide)
    have hno2 : ¬ (z2 = true ∧ o2 = true) := by
      rintro ⟨e1, e2⟩
      rw [hz2, decide_eq_true_eq] at e1
      rw [ho2, decide_eq_true_eq, e1] at e2
      exact absurd e2 (by decide)
    by_cases hi : (isT a && isT b) = true
    · rw [logP_yes hi, et, et2]
      rw [ei, ei2] at hi
      clear ha hb hp et et2 ei ei2 hz ho hz2 ho2
      cases z <;> cases o <;> simp at hi hno <;> cases z2 <;> cases o2 <;> simp at hi hno2
      all_goals
        clear hi hno hno2
        first | have a0' := beq_of a0 | have a0' := bne_of a0
        first | have a1' := beq_of a1 | have a1' := bne_of a1
        first | have b0' := beq_of b0 | have b0' := bne_of b0
        first | have b1' := beq_of b1 | have b1' := bne_of b1
        go_enter Tryz.func23, Tryz.ntmps23
        go_wp2_with fail
        refine (HK.out _).mono ?_
        rintro e w' ⟨rfl, rfl⟩
        go_wp2_with fail
        refine (HL.out _ _ _).mono ?_
        rintro e w' ⟨rfl, rfl⟩
        go_wp2_with fail
        refine (rflag_any _ _).mono ?_
        rintro e w' ⟨rfl, rfl⟩
        go_wp2
        go_ret2
        exact ⟨rfl, rfl⟩
    · have hi' : (isT a && isT b) = false := by simpa using hi
      rw [logP_no hi']
      rw [ei, ei2] at hi'
      clear ha hb hp et et2 ei ei2 hz ho hz2 ho2 hi HL
      cases z <;> cases o <;> simp at hi' hno <;> cases z2 <;> cases o2 <;> simp at hi' hno2
      all_goals
        first | have a0' := beq_of a0 | have a0' := bne_of a0
        first | have a1' := beq_of a1 | have a1' := bne_of a1
        first | have b0' := beq_of b0 | have b0' := bne_of b0
        first | have b1' := beq_of b1 | have b1' := bne_of b1
        go_enter Tryz.func23, Tryz.ntmps23
        go_wp2_with fail
        refine (HK.out _).mono ?_
        rintro e w' ⟨rfl, rfl⟩
        go_wp2
        go_ret2
        exact ⟨rfl, rfl⟩
end Go.Proofs.YtdddmehchfnppaaGreatDoor
namespace Go.Proofs.YtdddmehchfnppaaGreatDoor
open Go Go.RowKit Go.Proofs Fl

theorem and63 (i : Nat) (h : i ≤ 2097152) : bits .and .i64 (i : Int) 63 = ((i % 64 : Nat) : Int) := by
  show IntKind.i64.wrap ((BitVec.ofInt 64 (i : Int) &&& BitVec.ofInt 64 ((63 : Nat) : Int)).toNat : Int) = _
  have e : i &&& 63 = i % 64 := Nat.and_two_pow_sub_one_eq_mod i 6
  rw [BitVec.toNat_and, ofInt_u64 i (by omega), ofInt_u64 63 (by omega), e, IntKind.wrap_i64]
  omega
theorem wrap_u64_nat (n : Nat) (h : n < 18446744073709551616) : IntKind.u64.wrap (n : Int) = n := by rw [IntKind.wrap_u64]; omega
theorem div_pow (x r : Nat) : (x : Int) / 2 ^ r = ((x / 2 ^ r : Nat) : Int) := by
  rw [Int.natCast_ediv, Int.natCast_pow]
  rfl
theorem test_div (x r : Nat) : x.testBit r = decide (x / 2 ^ r % 2 = 1) := Nat.testBit_eq_decide_div_mod_eq
theorem at_bit (x i : Nat) (hx : x < 18446744073709551616) (hi : i ≤ 2097152) :
    (bits .and .u64 ((x : Int) / 2 ^ min (IntKind.u64.wrap (bits .and .i64 (i : Int) 63)).toNat 64) 1 == 1) = x.testBit (i % 64) := by
  rw [and63 i hi, wrap_u64_nat _ (by omega), Int.toNat_natCast, Nat.min_eq_left (by omega), div_pow]
  have h2 : x / 2 ^ (i % 64) ≤ x := Nat.div_le_self _ _
  have h1 := u64_and_nat (x / 2 ^ (i % 64)) 1 (by omega) (by omega)
  rw [show ((1 : Nat) : Int) = 1 from rfl] at h1
  rw [h1, Nat.and_one_is_mod, test_div, Bool.eq_iff_iff, beq_iff_eq, decide_eq_true_eq]
  omega

set_option maxHeartbeats 400000 in
theorem bat_any (b o n c len i x : Nat) (w : World) (hi : i < len) (hl : len ≤ 1048576) (hin : i / 64 < n) (hc : w.cell? ⟨b, o + i / 64, none⟩ = some (.int .u64 x)) (hx : x < 18446744073709551616) :
    Calls Tryz.prog 59 #[.agg #[.slice (some ⟨b, o, none⟩) n c, .int .i64 (len : Int)], .int .i64 (i : Int)] w fun e w' => e = .returned (.bool (x.testBit (i % 64))) ∧ Below w.heap.size w w' := by
  have h1 := fun a => cell_box1 hc a
  have HE := Lib.hid (at_bit x i hx (by omega))
  go_enter Tryz.func59, Tryz.ntmps59
  go_wp2
  go_ret
  exact ⟨by rw [← HE.out]; rfl, bel1 _ _⟩
set_option maxHeartbeats 400000 in
theorem blen_any (a : Value) (len : Int) (w : World) :
    Calls Tryz.prog 76 #[.agg #[a, .int .i64 len]] w fun e w' => e = .returned (.int .i64 len) ∧ Below w.heap.size w w' := by
  go_enter Tryz.func76, Tryz.ntmps76
  go_wp2
  go_ret
  exact ⟨rfl, bel1 _ _⟩

/-- a word of m bits -/
def wd (f : Nat → Bool) : Nat → Nat
  | 0 => 0
  | m + 1 => wd f m + (if f m then 2 ^ m else 0)
theorem wd_lt (f : Nat → Bool) (m : Nat) : Go.Proofs.YtdddmehchfnppaaGreatDoor.wd f m < 2 ^ m := by
  induction m with
  | zero => simp [Go.Proofs.YtdddmehchfnppaaGreatDoor.wd]
  | succ m ih =>
    have : 2 ^ (m + 1) = 2 ^ m + 2 ^ m := by rw [Nat.pow_succ]; omega
    unfold Go.Proofs.YtdddmehchfnppaaGreatDoor.wd
    split <;> omega
theorem wd_bit (f : Nat → Bool) (m j : Nat) : (Go.Proofs.YtdddmehchfnppaaGreatDoor.wd f m).testBit j = (decide (j < m) && f j) := by
  induction m with
  | zero => simp [Go.Proofs.YtdddmehchfnppaaGreatDoor.wd]
  | succ m ih =>
    have hlt := wd_lt f m
    unfold Go.Proofs.YtdddmehchfnppaaGreatDoor.wd
    by_cases hf : f m = true
    · rw [if_pos hf]
      rcases Nat.lt_trichotomy j m with h | h | h
      · rw [Nat.add_comm, Nat.testBit_two_pow_add_gt h, ih]
        simp [h, Nat.lt_succ_of_lt h]
      · subst h
        rw [Nat.add_comm, Nat.testBit_two_pow_add_eq, ih]
        simp [hf]
      · have h2 : Go.Proofs.YtdddmehchfnppaaGreatDoor.wd f m + 2 ^ m < 2 ^ j := by
          have h3 : 2 ^ (m + 1) ≤ 2 ^ j := Nat.pow_le_pow_right (by omega) h
          have : 2 ^ (m + 1) = 2 ^ m + 2 ^ m := by rw [Nat.pow_succ]; omega
          omega
        rw [Nat.testBit_lt_two_pow h2]
        have : ¬ j < m + 1 := by omega
        simp [this]
    · rw [if_neg hf, Nat.add_zero, ih]
      by_cases h : j < m
      · simp [h, Nat.lt_succ_of_lt h]
      · by_cases h2 : j = m
        · subst h2
          have : f j = false := by simpa using hf
          simp [this]
        · have h3 : ¬ j < m + 1 := by omega
          simp [h, h3]
/-- the words of n truths of which i are packed -/
def packW (l : Nat → Bool) (i j : Nat) : Nat := Go.Proofs.YtdddmehchfnppaaGreatDoor.wd (fun m => decide (64 * j + m < i) && l (64 * j + m)) 64
theorem packW_lt (l : Nat → Bool) (i j : Nat) : packW l i j < 18446744073709551616 := wd_lt _ 64
theorem packW_bit (l : Nat → Bool) (i j m : Nat) (hm : m < 64) : (packW l i j).testBit m = (decide (64 * j + m < i) && l (64 * j + m)) := by
  unfold packW
  rw [wd_bit]
  simp [hm]
theorem packW_high (l : Nat → Bool) (i j m : Nat) (hm : ¬ m < 64) : (packW l i j).testBit m = false :=
  Nat.testBit_lt_two_pow (Nat.lt_of_lt_of_le (packW_lt l i j) (Nat.pow_le_pow_right (n := 2) (i := 64) (by decide) (by omega)))
theorem packW_zero (l : Nat → Bool) (j : Nat) : packW l 0 j = 0 := by
  apply Nat.eq_of_testBit_eq
  intro m
  by_cases hm : m < 64
  · rw [packW_bit _ _ _ _ hm]; simp
  · rw [Nat.zero_testBit, packW_high _ _ _ _ hm]
theorem packW_skip (l : Nat → Bool) (i j : Nat) (h : l i = false ∨ j ≠ i / 64) : packW l (i + 1) j = packW l i j := by
  apply Nat.eq_of_testBit_eq
  intro m
  by_cases hm : m < 64
  · rw [packW_bit _ _ _ _ hm, packW_bit _ _ _ _ hm]
    by_cases e : 64 * j + m = i
    · rcases h with h | h
      · rw [e, h]; simp
      · exact absurd (by omega) h
    · congr 1
      rw [decide_eq_decide]
      omega
  · rw [packW_high _ _ _ _ hm, packW_high _ _ _ _ hm]
theorem packW_set (l : Nat → Bool) (i : Nat) (h : l i = true) : packW l (i + 1) (i / 64) = packW l i (i / 64) ||| 2 ^ (i % 64) := by
  apply Nat.eq_of_testBit_eq
  intro m
  rw [Nat.testBit_or, Nat.testBit_two_pow]
  by_cases hm : m < 64
  · rw [packW_bit _ _ _ _ hm, packW_bit _ _ _ _ hm]
    by_cases e : i % 64 = m
    · have e2 : 64 * (i / 64) + m = i := by omega
      rw [e2, h]
      simp [e]
    · have e2 : 64 * (i / 64) + m ≠ i := by omega
      simp only [e, decide_false, Bool.or_false]
      congr 1
      rw [decide_eq_decide]
      omega
  · rw [packW_high _ _ _ _ hm, packW_high _ _ _ _ hm]
    have e : ¬ i % 64 = m := by omega
    simp [e]
end Go.Proofs.YtdddmehchfnppaaGreatDoor
