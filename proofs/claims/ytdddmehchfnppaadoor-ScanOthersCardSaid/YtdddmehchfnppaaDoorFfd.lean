/- The walk of fold.Fold at numbers in a store of whole ones, where every step goes in whole numbers. Conditions: as each theorem says. -/
import Derived.Test.YtdddmehchfnppaaDoorFwi
import Derived.Test.YtdddmehchfnppaaDoorVcM
namespace Go.Proofs.YtdddmehchfnppaaDoor
open Go Go.RowKit Go.Proofs Fl

theorem bits_size : (Tryd.prog.info? 30).map (·.size) = some 2 := by kernel_rfl
theorem ret_bits2 {fn : Func} {p u : Tmp} (h : fn.results = #[.cell p 30, .tmp u]) (tmps : Array Value) (w : World) (G : Nat) {e : TypeId} {a0 a1 : Value}
    (hp : tmps.getD p undef = .pointer (some ⟨G, 0, none⟩)) (hg : w.heap[G]? = some (.cells #[a0, a1] e)) :
    (results fn tmps).run Tryd.prog w = .ok (.tuple #[.agg #[a0, a1], tmps.getD u undef]) w := by
  rw [results_cell_tmp h, hp]
  have := run_loadVar_row (P := Tryd.prog) w G e 30 _ (0, 0) _ hg Tryd.underlying30 rfl bits_size
  simp [asAddr, Result.andThen, this]

set_option maxHeartbeats 400000 in
theorem packed_no (k : Int) (hk : k ≠ 1) (b : Value) (bn : Int) (s i f c x : Value) (w : World) :
    Calls Tryd.prog 29 #[vecV k b bn s i f c x] w fun e w' => e = .returned (.tuple #[.agg #[vnil, .int .i64 0], .bool false]) ∧ Below w.heap.size w w' := by
  have hk1 : (k != 1) = true := by simpa using hk
  go_enter Tryd.func29, Tryd.ntmps29
  go_wp2
  refine bodyPost_ret (v := .tuple #[.agg #[vnil, .int .i64 0], .bool false]) ?_ rfl ⟨rfl, bel2 _ _ _⟩
  exact ret_bits2 (fn := Tryd.f29) (p := 2) (u := 3) rfl _ _ (w.heap.size + 1) (by rfl) (by have h := heap_alloc_new (w.alloc (.cells #[.int .i64 k, b, .int .i64 bn, s, i, f, c, x] 35)) (.cells #[.slice none 0 0, .int .i64 0] 30); simpa using h)

/-- a Vec and OK are told, and what is read of the Vec -/
def VecOk (H : Nat → Prop) (w : World) (R : Value → World → Prop) (e : Ending) (w' : World) : Prop :=
  ∃ (k : Int) (b : Sl) (bn : Int) (s i f c x : Sl), e = .returned (.tuple #[vecW k b bn s i f c x, .int .i64 0]) ∧ Keeps H w' (R (vecW k b bn s i f c x)) ∧ Below w.heap.size w w'
/-- a slice and true are told -/
def SlTrue (P : World → Value → Prop) (W : World) (e : Ending) (w' : World) : Prop := ∃ a n c, e = .returned (.tuple #[.slice a n c, .bool true]) ∧ P w' (.slice a n c) ∧ Below W.heap.size W w'

set_option maxRecDepth 100000 in
set_option maxHeartbeats 400000 in
theorem fold_wholes (H : Nat → Prop) (R : Value → World → Prop) (P : World → Value → Prop) (q : Int) (hq : knownB q = true) (k : Int) (b : Value) (bn : Int) (s i f c x : Value) (o n r : Int) (ho : 0 ≤ o) (hn : 2 ≤ n) (hr : 0 ≤ r) (w : World)
    (hcl : ∀ W, Calls Tryd.prog 27 #[vecV k b bn s i f c x] W fun e w' => e = .returned (.int .i64 0) ∧ Below W.heap.size W w')
    (hk : k ≠ 1)
    (hP : ∀ W W' v, P W v → Below W.heap.size W W' → P W' v)
    (hwh : ∀ W, Below w.heap.size w W → Calls Tryd.prog 31 #[vecV k b bn s i f c x] W (SlTrue P W))
    (hfw : ∀ W v, Below w.heap.size w W → P W v → Calls Tryd.prog 32 #[.int .i64 q, v, .int .i64 o, .int .i64 n, .int .i64 r] W (Vec2R (Hole H w W) W R)) :
    Calls Tryd.prog 10 #[.int .i64 q, vecV k b bn s i f c x, .int .i64 o, .int .i64 n, .int .i64 r] w (VecOk H w R) := by
  have HK := Lib.hid (fun W => hq ▸ known_any q W)
  have HS := Lib.hid (St.new w k b bn s i f c x)
  have HC := Lib.hid hcl
  have HPK := Lib.hid (fun W => packed_no k hk b bn s i f c x W)
  have HP := Lib.hid hP
  have HWH := Lib.hid hwh
  have HFW := Lib.hid hfw
  have o1 : ¬ o < 0 := by omega
  have n1 : ¬ n < 0 := by omega
  have r1 : ¬ r < 0 := by omega
  have e0 : (n == 1) = false := by simp; omega
  have e1 : (n == 0) = false := by simp; omega
  clear hq ho hn hr hcl hk hP hwh hfw
  go_enter Tryd.func10, Tryd.ntmps10
  go_wp2_with fail
  refine (HK.out _).mono ?_
  rintro e w1 ⟨rfl, hw⟩
  rw [hw] at HS
  clear hw
  obtain ⟨h0, h1, h2, h3, h4, h5, h6, h7⟩ := HS.out.box
  go_wp2_with fail
  refine (HC.out _).mono ?_
  rintro e w2 ⟨rfl, hb2⟩
  have HS2 := Lib.hid (HS.out.step hb2)
  clear hb2 h0 h1 h2 h3 h4 h5 h6 h7 HS
  obtain ⟨h0, h1, h2, h3, h4, h5, h6, h7⟩ := HS2.out.box
  go_wp2_with fail
  refine (HPK.out _).mono ?_
  rintro e w3 ⟨rfl, hb3⟩
  have HS3 := Lib.hid (HS2.out.step hb3)
  clear hb3 h0 h1 h2 h3 h4 h5 h6 h7 HS2
  obtain ⟨h0, h1, h2, h3, h4, h5, h6, h7⟩ := HS3.out.box
  have z3 : w.heap.size < w3.heap.size := HS3.out.box.lt
  have z3' : w.heap.size + 1 < w3.heap.size := HS3.out.sz
  have HS3' := Lib.hid (HS3.out.step (bel1 w3 (.cells #[vnil, .int .i64 0] 30)))
  have HWH3 := Lib.hid (HWH.out _ HS3'.out.bel)
  go_wp2_with fail
  refine HWH3.out.mono ?_
  rintro e w4 ⟨a4, n4, c4, rfl, hp4, hb4⟩
  have HS4 := Lib.hid (HS3'.out.step hb4)
  have HFW4 := Lib.hid (HFW.out _ _ HS4.out.bel hp4)
  clear hb4 hp4 h0 h1 h2 h3 h4 h5 h6 h7 HS3 HS3'
  go_wp2_with fail
  refine HFW4.out.mono ?_
  rintro e w5 ⟨k5, b5, bn5, s5, i5, f5, c5, x5, rfl, hk5, hb5⟩
  have HS5 := Lib.hid (HS4.out.step hb5)
  have HK5 := Lib.hid (hk5.sub (H' := fun j => H j ∨ j = w.heap.size + 1) fun j _ e => e.imp id fun e => by have := HS4.out.sz; omega)
  clear hb5 hk5 z3 z3'
  have z5 : w.heap.size < w5.heap.size := HS5.out.box.lt
  have z5' : w.heap.size + 1 < w5.heap.size := HS5.out.sz
  have HKE := Lib.hid ((HK5.out.set8 (.inr rfl) (.int .i64 k5) (.slice b5.1 b5.2.1 b5.2.2) (.int .i64 bn5) (.slice s5.1 s5.2.1 s5.2.2) (.slice i5.1 i5.2.1 i5.2.2) (.slice f5.1 f5.2.1 f5.2.2) (.slice c5.1 c5.2.1 c5.2.2) (.slice x5.1 x5.2.1 x5.2.2)).sub (H' := H) fun _ _ e => .inl e)
  have HBE := Lib.hid (below_set8 HS5.out.bel (Nat.le_succ _) (.int .i64 k5) (.slice b5.1 b5.2.1 b5.2.2) (.int .i64 bn5) (.slice s5.1 s5.2.1 s5.2.2) (.slice i5.1 i5.2.1 i5.2.2) (.slice f5.1 f5.2.1 f5.2.2) (.slice c5.1 c5.2.1 c5.2.2) (.slice x5.1 x5.2.1 x5.2.2))
  have HRE := Lib.hid (set8_block HS5.out.res (.int .i64 k5) (.slice b5.1 b5.2.1 b5.2.2) (.int .i64 bn5) (.slice s5.1 s5.2.1 s5.2.2) (.slice i5.1 i5.2.1 i5.2.2) (.slice f5.1 f5.2.1 f5.2.2) (.slice c5.1 c5.2.1 c5.2.2) (.slice x5.1 x5.2.1 x5.2.2))
  obtain ⟨⟨h0, h1, h2, h3, h4, h5, h6, h7⟩, hz⟩ := boxed_of HS5.out.res
  go_wp2
  refine bodyPost_ret (v := .tuple #[vecW k5 b5 bn5 s5 i5 f5 c5 x5, .int .i64 0]) ?_ rfl ⟨k5, b5, bn5, s5, i5, f5, c5, x5, rfl, HKE.out.step (bel1 _ _), bel_both HBE.out (bel1 _ _)⟩
  exact ret_vec2 (fn := Tryd.f10) (p := 10) (u := 11) rfl _ _ (w.heap.size + 1) (by rfl) ((Below.heap_alloc _ _ _ (lt_of_block HRE.out)).trans HRE.out)
end Go.Proofs.YtdddmehchfnppaaDoor
