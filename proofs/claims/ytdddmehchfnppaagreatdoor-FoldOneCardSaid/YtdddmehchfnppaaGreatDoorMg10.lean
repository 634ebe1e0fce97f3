/- Merged texts. The walks of fold.Fold where there is nothing to put together: no such function. Conditions: as each theorem says. The walk of fold.Fold at numbers in a store of whole ones, where every step goes in whole numbers. Conditions: as each theorem says. Whole numbers as floats: Tidy, Whole and Bits at them; a Vec of such floats, or of eight-bit numbers, as the walks ask for it. Conditions: as each theorem says. -/
import Derived.Test.YtdddmehchfnppaaGreatDoorMg09
import Derived.Test.YtdddmehchfnppaaGreatDoorMg07
import Derived.Test.YtdddmehchfnppaaGreatDoorMg01
namespace Go.Proofs.YtdddmehchfnppaaGreatDoor
open Go Go.RowKit Go.Proofs Fl

set_option maxRecDepth 100000 in
set_option maxHeartbeats 1000000 in
theorem fold_unknown (q : Int) (hq : knownB q = false) (k : Int) (b : Value) (bn : Int) (s i f c x : Value) (o n r : Int) (w : World) :
    Calls Tryz.prog 27 #[.int .i64 q, vecV k b bn s i f c x, .int .i64 o, .int .i64 n, .int .i64 r] w fun e w' => e = .returned (.tuple #[vecV 0 vnil 0 vnil vnil vnil vnil vnil, .int .i64 1]) ∧ Below w.heap.size w w' := by
  have HK := Lib.hid (fun W => hq ▸ known_any q W)
  have HS := Lib.hid (St.new w k b bn s i f c x)
  clear hq
  go_enter Tryz.func27, Tryz.ntmps27
  go_wp2_with fail
  refine (HK.out _).mono ?_
  rintro e w1 ⟨rfl, hw⟩
  rw [hw] at HS
  clear hw
  obtain ⟨⟨h0, h1, h2, h3, h4, h5, h6, h7⟩, hz⟩ := boxed_of HS.out.res
  go_wp2
  refine bodyPost_ret (v := .tuple #[vecV 0 vnil 0 vnil vnil vnil vnil vnil, .int .i64 1]) ?_ rfl ⟨rfl, below_set8 HS.out.bel (Nat.le_succ _) _ _ _ _ _ _ _ _⟩
  exact ret_vec2 (fn := Tryz.f27) (p := 10) (u := 11) rfl _ _ (w.heap.size + 1) (by rfl) (set8_block HS.out.res _ _ _ _ _ _ _ _)

set_option maxRecDepth 100000 in
set_option maxHeartbeats 1000000 in
theorem fold_chars_dom (q : Int) (hq : knownB q = true) (b : Value) (bn : Int) (s i f c x : Value) (o n r : Int) (ho : 0 ≤ o) (hn : 0 ≤ n) (hr : 0 ≤ r) (h1 : n ≠ 1) (w : World) :
    Calls Tryz.prog 27 #[.int .i64 q, vecV 5 b bn s i f c x, .int .i64 o, .int .i64 n, .int .i64 r] w fun e w' => e = .returned (.tuple #[vecV 0 vnil 0 vnil vnil vnil vnil vnil, .int .i64 24]) ∧ Below w.heap.size w w' := by
  have HK := Lib.hid (fun W => hq ▸ known_any q W)
  have HS := Lib.hid (St.new w 5 b bn s i f c x)
  have HC := Lib.hid (fun W => class_5 b bn s i f c x W)
  have o1 : ¬ o < 0 := by omega
  have n1 : ¬ n < 0 := by omega
  have r1 : ¬ r < 0 := by omega
  have n2 : (n != 1) = true := by simpa using h1
  clear hq ho hn hr
  go_enter Tryz.func27, Tryz.ntmps27
  go_wp2_with fail
  refine (HK.out _).mono ?_
  rintro e w1 ⟨rfl, hw⟩
  rw [hw] at HS
  clear hw
  obtain ⟨h0, h1, h2, h3, h4, h5, h6, h7⟩ := HS.out.box
  go_wp2_with fail
  refine (HC.out _).mono ?_
  rintro e w2 ⟨rfl, hb2⟩
  have HS2 := Lib.hid (HS.out.step hb2)
  clear hb2 h0 h1 h2 h3 h4 h5 h6 h7 HS
  have HSE := HS2
  obtain ⟨⟨h0, h1, h2, h3, h4, h5, h6, h7⟩, hz⟩ := boxed_of HSE.out.res
  go_wp2
  refine bodyPost_ret (v := .tuple #[vecV 0 vnil 0 vnil vnil vnil vnil vnil, .int .i64 24]) ?_ rfl ⟨rfl, below_set8 HSE.out.bel (Nat.le_succ _) _ _ _ _ _ _ _ _⟩
  exact ret_vec2 (fn := Tryz.f27) (p := 10) (u := 11) rfl _ _ (w.heap.size + 1) (by rfl) (set8_block HSE.out.res _ _ _ _ _ _ _ _)

set_option maxRecDepth 100000 in
set_option maxHeartbeats 1000000 in
theorem fold_boxes_dom (q : Int) (hq : knownB q = true) (b : Value) (bn : Int) (s i f c x : Value) (o n r : Int) (ho : 0 ≤ o) (hn : 0 ≤ n) (hr : 0 ≤ r) (h1 : n = 1) (w : World) :
    Calls Tryz.prog 27 #[.int .i64 q, vecV 6 b bn s i f c x, .int .i64 o, .int .i64 n, .int .i64 r] w fun e w' => e = .returned (.tuple #[vecV 0 vnil 0 vnil vnil vnil vnil vnil, .int .i64 24]) ∧ Below w.heap.size w w' := by
  have HK := Lib.hid (fun W => hq ▸ known_any q W)
  have HS := Lib.hid (St.new w 6 b bn s i f c x)
  have HC := Lib.hid (fun W => class_6 b bn s i f c x W)
  have o1 : ¬ o < 0 := by omega
  have r1 : ¬ r < 0 := by omega
  subst h1
  clear hq ho hn hr
  go_enter Tryz.func27, Tryz.ntmps27
  go_wp2_with fail
  refine (HK.out _).mono ?_
  rintro e w1 ⟨rfl, hw⟩
  rw [hw] at HS
  clear hw
  obtain ⟨h0, h1, h2, h3, h4, h5, h6, h7⟩ := HS.out.box
  go_wp2_with fail
  refine (HC.out _).mono ?_
  rintro e w2 ⟨rfl, hb2⟩
  have HS2 := Lib.hid (HS.out.step hb2)
  clear hb2 h0 h1 h2 h3 h4 h5 h6 h7 HS
  obtain ⟨h0, h1, h2, h3, h4, h5, h6, h7⟩ := HS2.out.box
  go_wp2_with fail
  refine (HC.out _).mono ?_
  rintro e w3 ⟨rfl, hb3⟩
  have HSE := Lib.hid (HS2.out.step hb3)
  clear hb3 h0 h1 h2 h3 h4 h5 h6 h7 HS2
  obtain ⟨⟨h0, h1, h2, h3, h4, h5, h6, h7⟩, hz⟩ := boxed_of HSE.out.res
  go_wp2
  refine bodyPost_ret (v := .tuple #[vecV 0 vnil 0 vnil vnil vnil vnil vnil, .int .i64 24]) ?_ rfl ⟨rfl, below_set8 HSE.out.bel (Nat.le_succ _) _ _ _ _ _ _ _ _⟩
  exact ret_vec2 (fn := Tryz.f27) (p := 10) (u := 11) rfl _ _ (w.heap.size + 1) (by rfl) (set8_block HSE.out.res _ _ _ _ _ _ _ _)


set_option maxRecDepth 100000 in
set_option maxHeartbeats 1000000 in
theorem fold_chars_one (q : Int) (hq : knownB q = true) (b : Value) (bn : Int) (s i f x : Value) (p : Option Addr) (m d : Nat) (o r : Int) (ho : 0 ≤ o) (hr : 0 ≤ r) (hb : b = vnil) (hs : s = vnil) (hi : i = vnil) (hf : f = vnil) (hx : x = vnil) (w : World) :
    Calls Tryz.prog 27 #[.int .i64 q, vecV 5 b bn s i f (.slice p m d) x, .int .i64 o, .int .i64 1, .int .i64 r] w fun e w' => e = .returned (.tuple #[vecV 5 b bn s i f (.slice p m d) x, .int .i64 0]) ∧ Below w.heap.size w w' := by
  subst hb hs hi hf hx
  have HK := Lib.hid (fun W => hq ▸ known_any q W)
  have HS := Lib.hid (St.new w 5 vnil bn vnil vnil vnil (.slice p m d) vnil)
  have HC := Lib.hid (fun W => class_5 vnil bn vnil vnil vnil (.slice p m d) vnil W)
  have o1 : ¬ o < 0 := by omega
  have r1 : ¬ r < 0 := by omega
  clear hq ho hr
  go_enter Tryz.func27, Tryz.ntmps27
  go_wp2_with fail
  refine (HK.out _).mono ?_
  rintro e w1 ⟨rfl, hw⟩
  rw [hw] at HS
  clear hw
  obtain ⟨h0, h1, h2, h3, h4, h5, h6, h7⟩ := HS.out.box
  go_wp2_with fail
  refine (HC.out _).mono ?_
  rintro e w2 ⟨rfl, hb2⟩
  have HS2 := Lib.hid (HS.out.step hb2)
  clear hb2 h0 h1 h2 h3 h4 h5 h6 h7 HS
  obtain ⟨h0, h1, h2, h3, h4, h5, h6, h7⟩ := HS2.out.box
  go_wp2_with fail
  refine (HC.out _).mono ?_
  rintro e w3 ⟨rfl, hb3⟩
  have HSE := Lib.hid (HS2.out.step hb3)
  clear hb3 h0 h1 h2 h3 h4 h5 h6 h7 HS2
  obtain ⟨h0, h1, h2, h3, h4, h5, h6, h7⟩ := HSE.out.box
  obtain ⟨⟨g0, g1, g2, g3, g4, g5, g6, g7⟩, hz⟩ := boxed_of HSE.out.res
  go_wp2
  refine bodyPost_ret (v := .tuple #[vecV 5 vnil bn vnil vnil vnil (.slice p m d) vnil, .int .i64 0]) ?_ rfl ⟨rfl, below_set8 HSE.out.bel (Nat.le_succ _) _ _ _ _ _ _ _ _⟩
  exact ret_vec2 (fn := Tryz.f27) (p := 10) (u := 11) rfl _ _ (w.heap.size + 1) (by rfl) (set8_block HSE.out.res _ _ _ _ _ _ _ _)
end Go.Proofs.YtdddmehchfnppaaGreatDoor
namespace Go.Proofs.YtdddmehchfnppaaGreatDoor
open Go Go.RowKit Go.Proofs Fl

theorem bits_size : (Tryz.prog.info? 26).map (·.size) = some 2 := by kernel_rfl
theorem ret_bits2 {fn : Func} {p u : Tmp} (h : fn.results = #[.cell p 26, .tmp u]) (tmps : Array Value) (w : World) (G : Nat) {e : TypeId} {a0 a1 : Value}
    (hp : tmps.getD p undef = .pointer (some ⟨G, 0, none⟩)) (hg : w.heap[G]? = some (.cells #[a0, a1] e)) :
    (results fn tmps).run Tryz.prog w = .ok (.tuple #[.agg #[a0, a1], tmps.getD u undef]) w := by
  rw [results_cell_tmp h, hp]
  have := run_loadVar_row (P := Tryz.prog) w G e 26 _ (0, 0) _ hg Tryz.underlying26 rfl bits_size
  simp [asAddr, Result.andThen, this]

set_option maxHeartbeats 400000 in
theorem packed_no (k : Int) (hk : k ≠ 1) (b : Value) (bn : Int) (s i f c x : Value) (w : World) :
    Calls Tryz.prog 32 #[vecV k b bn s i f c x] w fun e w' => e = .returned (.tuple #[.agg #[vnil, .int .i64 0], .bool false]) ∧ Below w.heap.size w w' := by
  have hk1 : (k != 1) = true := by simpa using hk
  go_enter Tryz.func32, Tryz.ntmps32
  go_wp2
  refine bodyPost_ret (v := .tuple #[.agg #[vnil, .int .i64 0], .bool false]) ?_ rfl ⟨rfl, bel2 _ _ _⟩
  exact ret_bits2 (fn := Tryz.f32) (p := 2) (u := 3) rfl _ _ (w.heap.size + 1) (by rfl) (by have h := heap_alloc_new (w.alloc (.cells #[.int .i64 k, b, .int .i64 bn, s, i, f, c, x] 32)) (.cells #[.slice none 0 0, .int .i64 0] 26); simpa using h)

/-- a Vec and OK are told, and what is read of the Vec -/
def VecOk (H : Nat → Prop) (w : World) (R : Value → World → Prop) (e : Ending) (w' : World) : Prop :=
  ∃ (k : Int) (b : Sl) (bn : Int) (s i f c x : Sl), e = .returned (.tuple #[vecW k b bn s i f c x, .int .i64 0]) ∧ Keeps H w' (R (vecW k b bn s i f c x)) ∧ Below w.heap.size w w'
/-- a slice and true are told -/
def SlTrue (P : World → Value → Prop) (W : World) (e : Ending) (w' : World) : Prop := ∃ a n c, e = .returned (.tuple #[.slice a n c, .bool true]) ∧ P w' (.slice a n c) ∧ Below W.heap.size W w'

set_option maxRecDepth 100000 in
set_option maxHeartbeats 400000 in
theorem fold_wholes (H : Nat → Prop) (R : Value → World → Prop) (P : World → Value → Prop) (q : Int) (hq : knownB q = true) (k : Int) (b : Value) (bn : Int) (s i f c x : Value) (o n r : Int) (ho : 0 ≤ o) (hn : 2 ≤ n) (hr : 0 ≤ r) (w : World)
    (hcl : ∀ W, Calls Tryz.prog 31 #[vecV k b bn s i f c x] W fun e w' => e = .returned (.int .i64 0) ∧ Below W.heap.size W w')
    (hk : k ≠ 1)
    (hP : ∀ W W' v, P W v → Below W.heap.size W W' → P W' v)
    (hwh : ∀ W, Below w.heap.size w W → Calls Tryz.prog 34 #[vecV k b bn s i f c x] W (SlTrue P W))
    (hfw : ∀ W v, Below w.heap.size w W → P W v → Calls Tryz.prog 56 #[.int .i64 q, v, .int .i64 o, .int .i64 n, .int .i64 r] W (Vec2R (Hole H w W) W R)) :
    Calls Tryz.prog 27 #[.int .i64 q, vecV k b bn s i f c x, .int .i64 o, .int .i64 n, .int .i64 r] w (VecOk H w R) := by
  have HK := Lib.hid (fun W => hq ▸ known_any q W)
  have HS := Lib.hid (St.new w k b bn s i f c x)
  have HC := Lib.hid hcl
  have HPK := Lib.hid (fun W => packed_no k hk b bn s i f c x W)
  have HP := Lib.hid hP
  have HWH := Lib.hid hwh
  have HFW := Lib.hid hfw
  have o1 : ¬ o < 0 := by omega
  have n1 : ¬ n < 0 := by omega
  have r1 : ¬ r < 0 := by omega
  have e0 : (n == 1) = false := by simp; omega
  have e1 : (n == 0) = false := by simp; omega
  clear hq ho hn hr hcl hk hP hwh hfw
  go_enter Tryz.func27, Tryz.ntmps27
  go_wp2_with fail
  refine (HK.out _).mono ?_
  rintro e w1 ⟨rfl, hw⟩
  rw [hw] at HS
  clear hw
  obtain ⟨h0, h1, h2, h3, h4, h5, h6, h7⟩ := HS.out.box
  go_wp2_with fail
  refine (HC.out _).mono ?_
  rintro e w2 ⟨rfl, hb2⟩
  have HS2 := Lib.hid (HS.out.step hb2)
  clear hb2 h0 h1 h2 h3 h4 h5 h6 h7 HS
  obtain ⟨h0, h1, h2, h3, h4, h5, h6, h7⟩ := HS2.out.box
  go_wp2_with fail
  refine (HPK.out _).mono ?_
  rintro e w3 ⟨rfl, hb3⟩
  have HS3 := Lib.hid (HS2.out.step hb3)
  clear hb3 h0 h1 h2 h3 h4 h5 h6 h7 HS2
  obtain ⟨h0, h1, h2, h3, h4, h5, h6, h7⟩ := HS3.out.box
  have z3 : w.heap.size < w3.heap.size := HS3.out.box.lt
  have z3' : w.heap.size + 1 < w3.heap.size := HS3.out.sz
  have HS3' := Lib.hid (HS3.out.step (bel1 w3 (.cells #[vnil, .int .i64 0] 26)))
  have HWH3 := Lib.hid (HWH.out _ HS3'.out.bel)
  go_wp2_with fail
  refine HWH3.out.mono ?_
  rintro e w4 ⟨a4, n4, c4, rfl, hp4, hb4⟩
  have HS4 := Lib.hid (HS3'.out.step hb4)
  have HFW4 := Lib.hid (HFW.out _ _ HS4.out.bel hp4)
  clear hb4 hp4 h0 h1 h2 h3 h4 h5 h6 h7 HS3 HS3'
  go_wp2_with fail
  refine HFW4.out.mono ?_
  rintro e w5 ⟨k5, b5, bn5, s5, i5, f5, c5, x5, rfl, hk5, hb5⟩
  have HS5 := Lib.hid (HS4.out.step hb5)
  have HK5 := Lib.hid (hk5.sub (H' := fun j => H j ∨ j = w.heap.size + 1) fun j _ e => e.imp id fun e => by have := HS4.out.sz; omega)
  clear hb5 hk5 z3 z3'
  have z5 : w.heap.size < w5.heap.size := HS5.out.box.lt
  have z5' : w.heap.size + 1 < w5.heap.size := HS5.out.sz
  have HKE := Lib.hid ((HK5.out.set8 (.inr rfl) (.int .i64 k5) (.slice b5.1 b5.2.1 b5.2.2) (.int .i64 bn5) (.slice s5.1 s5.2.1 s5.2.2) (.slice i5.1 i5.2.1 i5.2.2) (.slice f5.1 f5.2.1 f5.2.2) (.slice c5.1 c5.2.1 c5.2.2) (.slice x5.1 x5.2.1 x5.2.2)).sub (H' := H) fun _ _ e => .inl e)
  have HBE := Lib.hid (below_set8 HS5.out.bel (Nat.le_succ _) (.int .i64 k5) (.slice b5.1 b5.2.1 b5.2.2) (.int .i64 bn5) (.slice s5.1 s5.2.1 s5.2.2) (.slice i5.1 i5.2.1 i5.2.2) (.slice f5.1 f5.2.1 f5.2.2) (.slice c5.1 c5.2.1 c5.2.2) (.slice x5.1 x5.2.1 x5.2.2))
  have HRE := Lib.hid (set8_block HS5.out.res (.int .i64 k5) (.slice b5.1 b5.2.1 b5.2.2) (.int .i64 bn5) (.slice s5.1 s5.2.1 s5.2.2) (.slice i5.1 i5.2.1 i5.2.2) (.slice f5.1 f5.2.1 f5.2.2) (.slice c5.1 c5.2.1 c5.2.2) (.slice x5.1 x5.2.1 x5.2.2))
  obtain ⟨⟨h0, h1, h2, h3, h4, h5, h6, h7⟩, hz⟩ := boxed_of HS5.out.res
  go_wp2
  refine bodyPost_ret (v := .tuple #[vecW k5 b5 bn5 s5 i5 f5 c5 x5, .int .i64 0]) ?_ rfl ⟨k5, b5, bn5, s5, i5, f5, c5, x5, rfl, HKE.out.step (bel1 _ _), bel_both HBE.out (bel1 _ _)⟩
  exact ret_vec2 (fn := Tryz.f27) (p := 10) (u := 11) rfl _ _ (w.heap.size + 1) (by rfl) ((Below.heap_alloc _ _ _ (lt_of_block HRE.out)).trans HRE.out)
end Go.Proofs.YtdddmehchfnppaaGreatDoor
namespace Go.Proofs.YtdddmehchfnppaaGreatDoor
open Go Go.RowKit Go.Proofs Fl

theorem natAbs_good {n : Int} (h : Good n) : n.natAbs ≤ 9007199254740992 := by obtain ⟨h1, h2⟩ := h; omega
theorem fi_zero : fi 0 = 0 := by decide
theorem tid_fi (n : Int) (h : Good n) : tid (decide (n < 0)) (n.natAbs * 2^K) = fi n := by
  unfold tid
  split
  · rename_i h0
    have : n.natAbs = 0 := by
      rcases Nat.mul_eq_zero.1 h0 with e | e
      · exact e
      · exact absurd e (Nat.ne_of_gt (Nat.two_pow_pos K))
    have : n = 0 := by omega
    rw [this, fi_zero]
  · exact (fi_W n (natAbs_good h)).symm
theorem tidy_fi (n : Int) (h : Good n) (w : World) : Calls Tryz.prog 60 #[.float .f64 (fi n)] w fun e w' => e = .returned (.tuple #[.float .f64 (fi n), .bool true]) ∧ w = w' := by
  have := ntidy_num (decide (n < 0)) (rep_fi n (natAbs_good h)) w
  rw [tid_fi n h, ← fi_W n (natAbs_good h)] at this
  exact this
theorem sg_dec_natAbs (n : Int) : sg (decide (n < 0)) n.natAbs = n := by
  unfold sg
  by_cases h : n < 0
  · simp [h]; omega
  · simp [h]; omega
theorem nwhole_fi (n : Int) (h : Good n) (w : World) : Calls Tryz.prog 77 #[.float .f64 (fi n)] w fun e w' => e = .returned (.tuple #[.int .i64 n, .bool true]) ∧ w = w' := by
  have := nwhole_yes (decide (n < 0)) n.natAbs (natAbs_good h) w
  rw [sg_dec_natAbs, ← fi_W n (natAbs_good h)] at this
  exact this

theorem inf_div' (s : Bool) : floatBits .quo .f64 4607182418800017408 (W s 0) = some (infw s) := by cases s <;> decide +kernel
theorem fo_refl' (s : Bool) {Z : Nat} (hz : Rep Z) : FloatKind.f64.format.order (W s Z) (W s Z) = some .eq := by
  have := order_W s s hz hz
  rw [cmp_eq] at this
  exact this
set_option maxHeartbeats 400000 in
theorem bits_same' (s : Bool) {Z : Nat} (hz : Rep Z) (w : World) :
    Calls Tryz.prog 18 #[.float .f64 (W s Z), .float .f64 (W s Z)] w fun e w' => e = .returned (.bool true) ∧ w = w' := by
  have h1 := fo_refl' s hz
  have h2 := fo_eq s false hz rep_zero
  rw [W_zero, sg_zero] at h2
  by_cases h0 : Z = 0
  · subst h0
    rw [sg_zero, decide_eq_true rfl] at h2
    have h2' : FloatKind.f64.format.order (W s 0) 0 = some .eq := by simpa using h2
    have h3 := fo_infinf s
    have h4 := fun w => run_float_arith (P := Tryz.prog) w .quo 47 .f64 _ _ _ (inf_div' s)
    clear hz h2
    generalize W s 0 = b at *
    go_enter Tryz.func18, Tryz.ntmps18
    go_wp2
    go_ret
    exact ⟨rfl, rfl⟩
  · rw [decide_eq_false (by rw [sg_eq_zero]; exact h0)] at h2
    have h2' := beq_eq_false_iff_ne.1 h2
    have h2n : (FloatKind.f64.format.order (W s Z) 0 != some .eq) = true := by rw [bne, h2]; rfl
    clear hz h0
    generalize W s Z = b at *
    go_enter Tryz.func18, Tryz.ntmps18
    go_wp2
    go_ret
    exact ⟨rfl, rfl⟩
theorem bits_fi (n : Int) (h : Good n) (w : World) : Calls Tryz.prog 18 #[.float .f64 (fi n), .float .f64 (fi n)] w fun e w' => e = .returned (.bool true) ∧ w = w' := by
  have := bits_same' (decide (n < 0)) (rep_fi n (natAbs_good h)) w
  rw [← fi_W n (natAbs_good h)] at this
  exact this

theorem reads_at {w : World} {v : Value} {n : Nat} {F : Nat → Value} (h : Reads1 w v ((List.range n).map F)) : ∃ a c, v = .slice a n c ∧ ∀ j, j < n → ∃ b o, a = some ⟨b, o, none⟩ ∧ w.cell? ⟨b, o + j, none⟩ = some (F j) := by
  rcases h with ⟨a, c, rfl, h0⟩ | ⟨b, o, m, c, rfl, hn, hc⟩
  · have hn : n = 0 := by simpa using h0
    subst hn
    exact ⟨a, c, rfl, fun j hj => by omega⟩
  · have hm : m = n := by simpa using hn
    subst hm
    refine ⟨_, c, rfl, fun j hj => ⟨b, o, rfl, ?_⟩⟩
    rw [hc j (by simpa using hj)]
    simp

theorem wholesOf_floats {w : World} {s : Value} {n : Nat} {l : Nat → Int} (hr : Reads1 w s ((List.range n).map fun j => .float .f64 (fi (l j)))) (hg : ∀ j, j < n → Good (l j)) : WholesOf w (vecV 4 vnil 0 vnil vnil s vnil vnil) n l := by
  obtain ⟨a, c, rfl, hc⟩ := reads_at hr
  refine ⟨fun w' _ => len_4 _ _ _ _ _ _ _ _ _ _, fun w' hb j hj => ?_⟩
  obtain ⟨b, o, rfl, hcell⟩ := hc j hj
  exact swhole_float _ _ _ _ _ _ _ _ _ _ _ hj _ _ (fun W => nwhole_fi _ (hg j hj) W) w' (by rw [hb.cell (cell_lt hcell)]; exact hcell)
theorem wholesOf_ints {w : World} {s : Value} {n : Nat} {l : Nat → Int} (hr : Reads1 w s ((List.range n).map fun j => .int .i64 (l j))) : WholesOf w (vecV 3 vnil 0 vnil s vnil vnil vnil) n l := by
  obtain ⟨a, c, rfl, hc⟩ := reads_at hr
  refine ⟨fun w' _ => len_3 _ _ _ _ _ _ _ _ _ _, fun w' hb j hj => ?_⟩
  obtain ⟨b, o, rfl, hcell⟩ := hc j hj
  exact swhole_ints _ _ _ _ _ _ _ _ _ _ _ hj _ w' (by rw [hb.cell (cell_lt hcell)]; exact hcell)

/-- a Vec of eight-bit numbers: what is read of it -/
def Small8 (n : Nat) (l : Nat → Int) (u : Value) (W : World) : Prop := ∃ s, u = vecV 2 vnil 0 s vnil vnil vnil vnil ∧ Reads1 W s ((List.range n).map fun j => .int .i8 (l j))
theorem Small8.vr {n : Nat} {l : Nat → Int} {u : Value} {W : World} (h : Small8 n l u W) (hl : ∀ j, j < n → -128 ≤ l j ∧ l j ≤ 127) : VR W u (.small ((List.range n).map l)) := by
  obtain ⟨s, e, hr⟩ := h
  refine ⟨s, e, by rw [List.map_map]; exact hr, fun x hx => ?_⟩
  obtain ⟨j, hj, rfl⟩ := List.mem_map.1 hx
  exact hl j (List.mem_range.1 hj)

/-- squeeze.Into into eight bits, told with the caller's hole -/
theorem into_small (H : Nat → Prop) (w W : World) (hH : ∀ b, H b → b < w.heap.size) (hb : Below w.heap.size w W) (k : Int) (hk2 : k ≠ 2) (hk0 : k ≠ 0) (b : Value) (bn : Int) (s i f c x : Value) (n : Nat) (l : Nat → Int) (h : WholesOf W (vecV k b bn s i f c x) n l)
    (hcls : ∀ w', Below W.heap.size W w' → Calls Tryz.prog 31 #[vecV k b bn s i f c x] w' fun e w2 => e = .returned (.int .i64 0) ∧ Below w'.heap.size w' w2)
    (hn : n ≤ 1000000) (hl : ∀ j, j < n → -128 ≤ l j ∧ l j ≤ 127) :
    Calls Tryz.prog 30 #[vecV k b bn s i f c x, .int .i64 2] W (IntoR H w W (Small8 n l)) := by
  refine (intoSmall_walk k b bn s i f c x n l W h hcls hk2 hk0 hn hl).mono ?_
  rintro e w' ⟨u, rfl, ho, hb2⟩
  obtain ⟨a, m, c', rfl⟩ : ∃ a m c', u = .slice a m c' := by obtain ⟨a, c, e⟩ := ho.reads.len; exact ⟨a, _, c, e⟩
  exact ⟨2, (none, 0, 0), 0, (a, m, c'), (none, 0, 0), (none, 0, 0), (none, 0, 0), (none, 0, 0), rfl, (ho.keepsH (Hole.lt hH hb)).imp fun w2 h2 => ⟨_, rfl, h2⟩, hb2⟩
end Go.Proofs.YtdddmehchfnppaaGreatDoor
