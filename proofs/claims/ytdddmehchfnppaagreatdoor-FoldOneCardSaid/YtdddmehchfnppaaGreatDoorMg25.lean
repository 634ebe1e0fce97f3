/- Merged texts. The walks of vec.Floats at tidy numbers, of squeeze.Numbers, of Nums and Same at numbers. Conditions: as each theorem says. The walk of fold.floats, both outcomes. Conditions: as each theorem says. -/
import Derived.Test.YtdddmehchfnppaaGreatDoorMg24
namespace Go.Proofs.YtdddmehchfnppaaGreatDoor
open Go Go.RowKit Go.Proofs Fl

theorem ntidy_tf {b : Nat} (h : TF b) (w : World) : Calls Tryz.prog 60 #[.float .f64 b] w fun e w' => e = .returned (.tuple #[.float .f64 b, .bool true]) ∧ w = w' := by
  have hd := doneP_tf h
  obtain ⟨s, Z, hz, rfl, h0⟩ := h
  have h1 := ntidy_num s hz w
  rw [doneP_num s hz] at hd
  rw [(Prod.mk.inj hd).1] at h1
  exact h1
theorem bits_tf {b : Nat} (h : TF b) (w : World) : Calls Tryz.prog 18 #[.float .f64 b, .float .f64 b] w fun e w' => e = .returned (.bool true) ∧ w = w' := by
  obtain ⟨s, Z, hz, rfl, h0⟩ := h
  exact bits_same' s hz w

set_option maxRecDepth 100000 in
set_option maxHeartbeats 1000000 in
theorem floats_zero (a : Option Addr) (c : Nat) (w : World) :
    Calls Tryz.prog 29 #[.slice a 0 c] w fun e w' => ∃ u, e = .returned (.tuple #[vecV 4 vnil 0 vnil vnil u vnil vnil, .bool true]) ∧ Own1 w' w.heap.size 47 u [] ∧ Below w.heap.size w w' := by
  have hmk := run_make_row' (P := Tryz.prog) 22 47 (.float .f64 0) 8 Tryz.underlying22 info_f64 rfl .i64 .i64 0 (by omega) (by omega)
  rw [show ((0 : Nat) : Int) = 0 from rfl] at hmk
  have hsz : (w.alloc (.cells #[.int .i64 4, vnil, .int .i64 0, vnil, vnil, .slice (some ⟨w.heap.size + 1, 0, none⟩) 0 0, vnil, vnil] 32)).heap.size = w.heap.size + 1 := by simp
  have HF0 := Lib.hid (Fill.made (w.alloc (.cells #[.int .i64 4, vnil, .int .i64 0, vnil, vnil, .slice (some ⟨w.heap.size + 1, 0, none⟩) 0 0, vnil, vnil] 32)) w.heap.size (by simp) 47 (fun _ => .float .f64 0) (.float .f64 0) 0 (by unfold maxLen; omega)).own
  rw [hsz] at HF0
  have HB0 := Lib.hid (bel2 w (.cells #[.int .i64 4, vnil, .int .i64 0, vnil, vnil, .slice (some ⟨w.heap.size + 1, 0, none⟩) 0 0, vnil, vnil] 32) (.cells (madeCells #[.float .f64 0] 0) 47))
  have HK0 := Lib.hid (block_up (bel1 (w.alloc (.cells #[.int .i64 4, vnil, .int .i64 0, vnil, vnil, .slice (some ⟨w.heap.size + 1, 0, none⟩) 0 0, vnil, vnil] 32)) (.cells (madeCells #[.float .f64 0] 0) 47)))
  clear hsz
  go_enter Tryz.func29, Tryz.ntmps29
  go_wp2
  refine wp_loop_rounds 1 ?_
  rw [rounds_succ]
  go_wp2
  refine bodyPost_ret (v := .tuple #[vecV 4 vnil 0 vnil vnil (.slice (some ⟨w.heap.size + 1, 0, none⟩) 0 0) vnil vnil, .bool true]) ?_ rfl ⟨.slice (some ⟨w.heap.size + 1, 0, none⟩) 0 0, rfl, HF0.out, HB0.out⟩
  exact ret_vec2 (fn := Tryz.f29) (p := 2) (u := 3) rfl _ _ w.heap.size (by rfl) HK0.out

/-- Floats, at tidy numbers -/
theorem floats_any {w : World} {v : Value} {n : Nat} {F : Nat → Nat} (hr : Reads1 w v ((List.range n).map fun j => .float .f64 (F j))) (hn : n ≤ 1000000) (ht : ∀ j, j < n → TF (F j)) :
    Calls Tryz.prog 29 #[v] w fun e w' => ∃ a m c, e = .returned (.tuple #[vecV 4 vnil 0 vnil vnil (.slice a m c) vnil vnil, .bool true]) ∧ Own1 w' w.heap.size 47 (.slice a m c) ((List.range n).map fun j => .float .f64 (F j)) ∧ Below w.heap.size w w' := by
  obtain ⟨a, c, rfl, hc⟩ := reads_at hr
  by_cases h0 : n = 0
  · subst h0
    refine (floats_zero a c w).mono ?_
    rintro e w' ⟨u, rfl, ho, hb⟩
    obtain ⟨a, c, rfl⟩ : ∃ a c, u = .slice a 0 c := ho.reads.len
    exact ⟨a, 0, c, rfl, ho, hb⟩
  · obtain ⟨b, o, rfl, _⟩ := hc 0 (by omega)
    refine (floats_walk b o n c F F hn w (fun i hi => ?_) (fun i hi W => ntidy_tf (ht i hi) W)).mono ?_
    · obtain ⟨b', o', e, hcell⟩ := hc i hi
      injection e with e
      injection e with e1 e2 _
      subst e1; subst e2
      exact hcell
    · rintro e w' ⟨u, rfl, ho, hb⟩
      obtain ⟨a, c, rfl⟩ := ho.reads.len
      exact ⟨a, _, c, rfl, ho, hb⟩

set_option maxRecDepth 100000 in
set_option maxHeartbeats 1000000 in
/-- Numbers, at tidy numbers: they are kept in the least store -/
theorem numbers_any (H : Nat → Prop) (v : Value) (n : Nat) (F : Nat → Nat) (w : World) (hH : ∀ b, H b → b < w.heap.size) (hr : Reads1 w v ((List.range n).map fun j => .float .f64 (F j))) (hn : n ≤ 1000000) (ht : ∀ j, j < n → TF (F j)) :
    Calls Tryz.prog 75 #[v] w (Vec2R H w (fun u W => NumV u (leastF F n : Nat) n F W)) := by
  have HF := Lib.hid (floats_any (hr.below (bel1 w (.cells zcells 32))) hn ht)
  have HT := Lib.hid ht
  have HH := Lib.hid hH
  obtain ⟨v1, v2, v3, rfl⟩ : ∃ a m c, v = .slice a m c := by obtain ⟨a, c, e⟩ := hr.len; exact ⟨a, _, c, e⟩
  clear hr ht hH
  go_enter Tryz.func75, Tryz.ntmps75
  go_wp2_with fail
  refine HF.out.mono ?_
  rintro e w1 ⟨a, m, c, rfl, ho, hb1⟩
  have HK1 := Lib.hid (block_up hb1)
  have HB1 := Lib.hid (bel_both (bel1 w _) hb1)
  have HO := Lib.hid (ho.lower (show w.heap.size + 1 ≤ _ by simp))
  clear hb1 ho
  have HB2 := Lib.hid (bel_both HB1.out (bel1 w1 (.cells #[.int .i64 4, vnil, .int .i64 0, vnil, vnil, .slice a m c, vnil, vnil] 32)))
  have HK2 := Lib.hid ((Below.heap_alloc w1 (.cells #[.int .i64 4, vnil, .int .i64 0, vnil, vnil, .slice a m c, vnil, vnil] 32) _ (lt_of_block HK1.out)).trans HK1.out)
  have HKV : Hid (Keeps (fun j => H j ∨ j = w.heap.size) (w1.alloc (.cells #[.int .i64 4, vnil, .int .i64 0, vnil, vnil, .slice a m c, vnil, vnil] 32)) (NumV (vecW 4 (none, 0, 0) 0 (none, 0, 0) (none, 0, 0) (a, m, c) (none, 0, 0) (none, 0, 0)) 4 n F)) :=
    ((HO.out.keepsH (fun j e => by rcases e with e | e; have := HH.out j e; omega; omega)).imp fun W' h2 => numV_floats ⟨⟨_, rfl, h2⟩, HT.out⟩).step (bel1 w1 _)
  have HS := Lib.hid (squeeze_num (fun j => H j ∨ j = w.heap.size) 4 (none, 0, 0) 0 (none, 0, 0) (none, 0, 0) (a, m, c) (none, 0, 0) (none, 0, 0) n F _ (fun j e => by
    have h1 := HB2.out.size
    have h2 := lt_of_block HK2.out
    rcases e with e | e
    · have := HH.out j e; omega
    · omega) hn HKV.out)
  go_wp2_with fail
  refine HS.out.mono ?_
  rintro e w3 ⟨k4, b4, bn4, s4, i4, f4, c4, x4, rfl, hk4, hb4⟩
  have HB4 := Lib.hid (bel_both HB2.out hb4)
  have HK4 := Lib.hid (show w3.heap[w.heap.size]? = some (.cells zcells 32) by rw [hb4.block _ (lt_of_block HK2.out)]; exact HK2.out)
  have HKE := Lib.hid hk4
  clear hb4 hk4
  obtain ⟨⟨h0, h1, h2, h3, h4, h5, h6, h7⟩, hz⟩ := boxed_of HK4.out
  go_wp2
  refine bodyPost_ret (v := .tuple #[vecW k4 b4 bn4 s4 i4 f4 c4 x4, .bool true]) ?_ rfl ⟨k4, b4, bn4, s4, i4, f4, c4, x4, rfl, (HKE.out.set8 (.inr rfl) _ _ _ _ _ _ _ _).sub (fun _ _ e => .inl e), below_set8 HB4.out (Nat.le_refl _) _ _ _ _ _ _ _ _⟩
  exact ret_vec2 (fn := Tryz.f75) (p := 2) (u := 3) rfl _ _ w.heap.size (by rfl) (set8_block HK4.out _ _ _ _ _ _ _ _)

/-- the numbers of a Vec -/
theorem nums_num (k : Int) (b : Value) (bn : Int) (s i f c x : Value) (n : Nat) (F : Nat → Nat) (w : World) (hn : n ≤ 1000000) (hN : ∀ W, Below w.heap.size w W → NumV (vecV k b bn s i f c x) k n F W) :
    Calls Tryz.prog 13 #[vecV k b bn s i f c x] w fun e w' => ∃ v, e = .returned v ∧ Own1 w' w.heap.size 47 v ((List.range n).map fun j => .float .f64 (F j)) ∧ Below w.heap.size w w' :=
  nums_walk k b bn s i f c x n F w ⟨fun W hb => (hN W hb).cls, fun W hb => (hN W hb).len, fun W hb j hj => (hN W hb).num j hj⟩ hn
theorem same_tf (va vb : Value) (n : Nat) (F : Nat → Nat) (w : World) (ha : Reads1 w va ((List.range n).map fun j => .float .f64 (F j))) (hb : Reads1 w vb ((List.range n).map fun j => .float .f64 (F j))) (hn : n ≤ 1000000) (ht : ∀ j, j < n → TF (F j)) :
    Calls Tryz.prog 12 #[va, vb] w fun e w' => e = .returned (.bool true) ∧ Below w.heap.size w w' :=
  same_walk va vb n _ w ha hb hn fun i hi W => bits_tf (ht i hi) W
end Go.Proofs.YtdddmehchfnppaaGreatDoor
namespace Go.Proofs.YtdddmehchfnppaaGreatDoor
open Go Go.RowKit Go.Proofs Fl

theorem oneP_cases {pw : Nat → Nat → Nat × Int} (hp : PowIs pw) (f : Int) {a b : Nat} (ha : TF a) (hb : TF b) : (∃ c, TF c ∧ oneP pw f a b = (c, 0)) ∨ oneP pw f a b = (0, 24) := by
  unfold oneP
  split
  · exact doneP_cases (add_tot ha hb).2
  split
  · exact doneP_cases (sub_tot ha hb).2
  split
  · exact doneP_cases (mul_tot ha hb).2
  split
  · unfold divP
    split
    · split
      · exact .inl ⟨_, tf_one, rfl⟩
      · exact .inr rfl
    · rename_i h0; exact doneP_cases (div_tot ha hb h0).2
  split
  · exact .inl ⟨_, maxP_tf ha hb, rfl⟩
  split
  · exact .inl ⟨_, minP_tf ha hb, rfl⟩
  split
  · unfold restP
    split
    · rename_i x y ex ey; exact .inl ⟨_, tf_fi (restZ_good (wholeP_some ex).1 (wholeP_some ey).1), rfl⟩
    · exact .inr rfl
  split
  · exact hp.tf a b ha hb
  split
  · exact .inl ⟨_, tf_flag _, rfl⟩
  · unfold logP
    split
    · exact .inl ⟨_, tf_flag _, rfl⟩
    · exact .inr rfl

/-- a row put together from its end on: after m steps; none: that doesn't go -/
def stepsR (g : Nat → Nat → Nat × Int) (x : Nat → Nat) (n : Nat) : Nat → Option Nat
  | 0 => some (x (n - 1))
  | m + 1 => (stepsR g x n m).bind fun y => if (g (x (n - 2 - m)) y).2 = 0 then some (g (x (n - 2 - m)) y).1 else none
/-- a row put together -/
def rowR (g : Nat → Nat → Nat × Int) (x : Nat → Nat) (n : Nat) : Option Nat := stepsR g x n (n - 1)
theorem stepsR_none {g : Nat → Nat → Nat × Int} {x : Nat → Nat} {n m : Nat} (h : stepsR g x n m = none) (j : Nat) : stepsR g x n (m + j) = none := by
  induction j with
  | zero => exact h
  | succ j ih =>
    show (stepsR g x n (m + j)).bind _ = none
    rw [ih]; rfl
theorem rowR_none {g : Nat → Nat → Nat × Int} {x : Nat → Nat} {n m : Nat} (hm : m ≤ n - 1) (h : stepsR g x n m = none) : rowR g x n = none := by
  have := stepsR_none h (n - 1 - m)
  rw [show m + (n - 1 - m) = n - 1 by omega] at this
  exact this
theorem stepsR_tf {pw : Nat → Nat → Nat × Int} (hp : PowIs pw) {f : Int} {x : Nat → Nat} {n : Nat} (hn : 1 ≤ n) (hx : ∀ i, i < n → TF (x i)) : ∀ m, m ≤ n - 1 → ∀ y, stepsR (oneP pw f) x n m = some y → TF y := by
  intro m
  induction m with
  | zero => intro _ y h; injection h with h; rw [← h]; exact hx _ (by omega)
  | succ m ih =>
    intro hm y h
    unfold stepsR at h
    cases hs : stepsR (oneP pw f) x n m with
    | none => rw [hs] at h; cases h
    | some z =>
      rw [hs] at h
      have hz := ih (by omega) z hs
      rcases oneP_cases hp f (hx (n - 2 - m) (by omega)) hz with ⟨c, hc, e⟩ | e
      · simp [e] at h
        rw [← h]; exact hc
      · simp [e] at h

/-- the elements of a row -/
def lineF (F : Nat → Nat) (n inner o k : Nat) : Nat → Nat := fun i => F (o * n * inner + k + i * inner)
/-- what the rows come to, one after the other -/
def rowsR (g : Nat → Nat → Nat × Int) (F : Nat → Nat) (n inner c : Nat) : Option Nat := rowR g (lineF F n inner (c / inner) (c % inner)) n
theorem rowsR_at {g : Nat → Nat → Nat × Int} {F : Nat → Nat} {n inner o k : Nat} (h : k < inner) : rowsR g F n inner (o * inner + k) = rowR g (lineF F n inner o k) n := by
  have h1 : (o * inner + k) / inner = o := by rw [Nat.mul_comm, Nat.mul_add_div (by omega), Nat.div_eq_of_lt h]; omega
  have h2 : (o * inner + k) % inner = k := by rw [Nat.mul_comm, Nat.mul_add_mod, Nat.mod_eq_of_lt h]
  unfold rowsR
  rw [h1, h2]
def outF (g : Nat → Nat → Nat × Int) (F : Nat → Nat) (n inner c : Nat) : Nat := (rowsR g F n inner c).getD 0
theorem outF_some {g : Nat → Nat → Nat × Int} {F : Nat → Nat} {n inner c y : Nat} (h : rowsR g F n inner c = some y) : outF g F n inner c = y := by unfold outF; rw [h]; rfl

/-- what a function that puts rows together tells -/
def FlOut (H : Nat → Prop) (w : World) (g : Nat → Nat → Nat × Int) (F : Nat → Nat) (n inner N : Nat) (e : Ending) (w' : World) : Prop :=
  ((∀ c, c < N → ∃ y, rowsR g F n inner c = some y) ∧ VecOk H w (fun u W => NumV u (leastF (outF g F n inner) N : Nat) N (outF g F n inner) W) e w') ∨
  ((∃ c, c < N ∧ rowsR g F n inner c = none) ∧ e = .returned (.tuple #[vecV 0 vnil 0 vnil vnil vnil vnil vnil, .int .i64 24]) ∧ Below w.heap.size w w')

theorem make_capF (n : Nat) (hn : n ≤ 1000000) (w : World) : (Instr.makeSlice 22 (.int .i64 0) (.int .i64 (n : Int))).run Tryz.prog w = .ok (.slice (some ⟨w.heap.size, 0, none⟩) 0 n) (w.alloc (.cells (madeCells #[.float .f64 0] n) 47)) := by
  obtain ⟨i, hi, hz, hs, hb⟩ := info_parts info_f64
  have hr := run_make (P := Tryz.prog) w 22 47 i (.float .f64 0) Tryz.underlying22 hi hz .i64 .i64 0 (n : Int) (by omega) (by omega) (by rw [hb]; omega) (by omega)
  simp only [Int.toNat_natCast, hs, Nat.mul_one] at hr
  exact hr
end Go.Proofs.YtdddmehchfnppaaGreatDoor
