/- Whole numbers as floats: Tidy, Whole and Bits at them; a Vec of such floats, or of eight-bit numbers, as the walks ask for it. Conditions: as each theorem says. -/
import Derived.Test.YtdddmehchfnppaaDoorFfd
import Derived.Test.YtdddmehchfnppaaDoorFlc
namespace Go.Proofs.YtdddmehchfnppaaDoor
open Go Go.RowKit Go.Proofs Fl

theorem natAbs_good {n : Int} (h : Good n) : n.natAbs ≤ 9007199254740992 := by obtain ⟨h1, h2⟩ := h; omega
theorem fi_zero : fi 0 = 0 := by decide
theorem tid_fi (n : Int) (h : Good n) : tid (decide (n < 0)) (n.natAbs * 2^K) = fi n := by
  unfold tid
  split
  · rename_i h0
    have : n.natAbs = 0 := by
      rcases Nat.mul_eq_zero.1 h0 with e | e
      · exact e
      · exact absurd e (Nat.ne_of_gt (Nat.two_pow_pos K))
    have : n = 0 := by omega
    rw [this, fi_zero]
  · exact (fi_W n (natAbs_good h)).symm
theorem tidy_fi (n : Int) (h : Good n) (w : World) : Calls Tryd.prog 48 #[.float .f64 (fi n)] w fun e w' => e = .returned (.tuple #[.float .f64 (fi n), .bool true]) ∧ w = w' := by
  have := ntidy_num (decide (n < 0)) (rep_fi n (natAbs_good h)) w
  rw [tid_fi n h, ← fi_W n (natAbs_good h)] at this
  exact this
theorem sg_dec_natAbs (n : Int) : sg (decide (n < 0)) n.natAbs = n := by
  unfold sg
  by_cases h : n < 0
  · simp [h]; omega
  · simp [h]; omega
theorem nwhole_fi (n : Int) (h : Good n) (w : World) : Calls Tryd.prog 68 #[.float .f64 (fi n)] w fun e w' => e = .returned (.tuple #[.int .i64 n, .bool true]) ∧ w = w' := by
  have := nwhole_yes (decide (n < 0)) n.natAbs (natAbs_good h) w
  rw [sg_dec_natAbs, ← fi_W n (natAbs_good h)] at this
  exact this

theorem inf_div' (s : Bool) : floatBits .quo .f64 4607182418800017408 (W s 0) = some (infw s) := by cases s <;> decide +kernel
theorem fo_refl' (s : Bool) {Z : Nat} (hz : Rep Z) : FloatKind.f64.format.order (W s Z) (W s Z) = some .eq := by
  have := order_W s s hz hz
  rw [cmp_eq] at this
  exact this
set_option maxHeartbeats 400000 in
theorem bits_same' (s : Bool) {Z : Nat} (hz : Rep Z) (w : World) :
    Calls Tryd.prog 37 #[.float .f64 (W s Z), .float .f64 (W s Z)] w fun e w' => e = .returned (.bool true) ∧ w = w' := by
  have h1 := fo_refl' s hz
  have h2 := fo_eq s false hz rep_zero
  rw [W_zero, sg_zero] at h2
  by_cases h0 : Z = 0
  · subst h0
    rw [sg_zero, decide_eq_true rfl] at h2
    have h2' : FloatKind.f64.format.order (W s 0) 0 = some .eq := by simpa using h2
    have h3 := fo_infinf s
    have h4 := fun w => run_float_arith (P := Tryd.prog) w .quo 26 .f64 _ _ _ (inf_div' s)
    clear hz h2
    generalize W s 0 = b at *
    go_enter Tryd.func37, Tryd.ntmps37
    go_wp2
    go_ret
    exact ⟨rfl, rfl⟩
  · rw [decide_eq_false (by rw [sg_eq_zero]; exact h0)] at h2
    have h2' := beq_eq_false_iff_ne.1 h2
    have h2n : (FloatKind.f64.format.order (W s Z) 0 != some .eq) = true := by rw [bne, h2]; rfl
    clear hz h0
    generalize W s Z = b at *
    go_enter Tryd.func37, Tryd.ntmps37
    go_wp2
    go_ret
    exact ⟨rfl, rfl⟩
theorem bits_fi (n : Int) (h : Good n) (w : World) : Calls Tryd.prog 37 #[.float .f64 (fi n), .float .f64 (fi n)] w fun e w' => e = .returned (.bool true) ∧ w = w' := by
  have := bits_same' (decide (n < 0)) (rep_fi n (natAbs_good h)) w
  rw [← fi_W n (natAbs_good h)] at this
  exact this

theorem reads_at {w : World} {v : Value} {n : Nat} {F : Nat → Value} (h : Reads1 w v ((List.range n).map F)) : ∃ a c, v = .slice a n c ∧ ∀ j, j < n → ∃ b o, a = some ⟨b, o, none⟩ ∧ w.cell? ⟨b, o + j, none⟩ = some (F j) := by
  rcases h with ⟨a, c, rfl, h0⟩ | ⟨b, o, m, c, rfl, hn, hc⟩
  · have hn : n = 0 := by simpa using h0
    subst hn
    exact ⟨a, c, rfl, fun j hj => by omega⟩
  · have hm : m = n := by simpa using hn
    subst hm
    refine ⟨_, c, rfl, fun j hj => ⟨b, o, rfl, ?_⟩⟩
    rw [hc j (by simpa using hj)]
    simp

theorem wholesOf_floats {w : World} {s : Value} {n : Nat} {l : Nat → Int} (hr : Reads1 w s ((List.range n).map fun j => .float .f64 (fi (l j)))) (hg : ∀ j, j < n → Good (l j)) : WholesOf w (vecV 4 vnil 0 vnil vnil s vnil vnil) n l := by
  obtain ⟨a, c, rfl, hc⟩ := reads_at hr
  refine ⟨fun w' _ => len_4 _ _ _ _ _ _ _ _ _ _, fun w' hb j hj => ?_⟩
  obtain ⟨b, o, rfl, hcell⟩ := hc j hj
  exact swhole_float _ _ _ _ _ _ _ _ _ _ _ hj _ _ (fun W => nwhole_fi _ (hg j hj) W) w' (by rw [hb.cell (cell_lt hcell)]; exact hcell)
theorem wholesOf_ints {w : World} {s : Value} {n : Nat} {l : Nat → Int} (hr : Reads1 w s ((List.range n).map fun j => .int .i64 (l j))) : WholesOf w (vecV 3 vnil 0 vnil s vnil vnil vnil) n l := by
  obtain ⟨a, c, rfl, hc⟩ := reads_at hr
  refine ⟨fun w' _ => len_3 _ _ _ _ _ _ _ _ _ _, fun w' hb j hj => ?_⟩
  obtain ⟨b, o, rfl, hcell⟩ := hc j hj
  exact swhole_ints _ _ _ _ _ _ _ _ _ _ _ hj _ w' (by rw [hb.cell (cell_lt hcell)]; exact hcell)

/-- a Vec of eight-bit numbers: what is read of it -/
def Small8 (n : Nat) (l : Nat → Int) (u : Value) (W : World) : Prop := ∃ s, u = vecV 2 vnil 0 s vnil vnil vnil vnil ∧ Reads1 W s ((List.range n).map fun j => .int .i8 (l j))
theorem Small8.vr {n : Nat} {l : Nat → Int} {u : Value} {W : World} (h : Small8 n l u W) (hl : ∀ j, j < n → -128 ≤ l j ∧ l j ≤ 127) : VR W u (.small ((List.range n).map l)) := by
  obtain ⟨s, e, hr⟩ := h
  refine ⟨s, e, by rw [List.map_map]; exact hr, fun x hx => ?_⟩
  obtain ⟨j, hj, rfl⟩ := List.mem_map.1 hx
  exact hl j (List.mem_range.1 hj)

/-- squeeze.Into into eight bits, told with the caller's hole -/
theorem into_small (H : Nat → Prop) (w W : World) (hH : ∀ b, H b → b < w.heap.size) (hb : Below w.heap.size w W) (k : Int) (hk2 : k ≠ 2) (hk0 : k ≠ 0) (b : Value) (bn : Int) (s i f c x : Value) (n : Nat) (l : Nat → Int) (h : WholesOf W (vecV k b bn s i f c x) n l)
    (hcls : ∀ w', Below W.heap.size W w' → Calls Tryd.prog 27 #[vecV k b bn s i f c x] w' fun e w2 => e = .returned (.int .i64 0) ∧ Below w'.heap.size w' w2)
    (hn : n ≤ 1000000) (hl : ∀ j, j < n → -128 ≤ l j ∧ l j ≤ 127) :
    Calls Tryd.prog 25 #[vecV k b bn s i f c x, .int .i64 2] W (IntoR H w W (Small8 n l)) := by
  refine (intoSmall_walk k b bn s i f c x n l W h hcls hk2 hk0 hn hl).mono ?_
  rintro e w' ⟨u, rfl, ho, hb2⟩
  obtain ⟨a, m, c', rfl⟩ : ∃ a m c', u = .slice a m c' := by obtain ⟨a, c, e⟩ := ho.reads.len; exact ⟨a, _, c, e⟩
  exact ⟨2, (none, 0, 0), 0, (a, m, c'), (none, 0, 0), (none, 0, 0), (none, 0, 0), (none, 0, 0), rfl, (ho.keepsH (Hole.lt hH hb)).imp fun w2 h2 => ⟨_, rfl, h2⟩, hb2⟩
end Go.Proofs.YtdddmehchfnppaaDoor
