/- The walks that make a Vec of a row. Conditions: as each theorem says. -/
import Derived.Test.YtdddmehchfnppaaDoorMg05
import Derived.OneCell
import Derived.Laws.ResultCell
import Derived.Laws.Rows
namespace Go.Proofs.YtdddmehchfnppaaDoor
open Go Go.RowKit Go.Proofs Fl

/-- a block of eight cells written whole -/
abbrev set8 (w : World) (G : Nat) (a0 a1 a2 a3 a4 a5 a6 a7 : Value) : World :=
  (((((((w.setCell ⟨G, 0, none⟩ a0).setCell ⟨G, 1, none⟩ a1).setCell ⟨G, 2, none⟩ a2).setCell ⟨G, 3, none⟩ a3).setCell ⟨G, 4, none⟩ a4).setCell ⟨G, 5, none⟩ a5).setCell ⟨G, 6, none⟩ a6).setCell ⟨G, 7, none⟩ a7
theorem below_set8 {B : Nat} {w0 w : World} (h : Below B w0 w) {G : Nat} (hG : B ≤ G) (a0 a1 a2 a3 a4 a5 a6 a7 : Value) : Below B w0 (set8 w G a0 a1 a2 a3 a4 a5 a6 a7) :=
  (((((((h.setCell hG _).setCell hG _).setCell hG _).setCell hG _).setCell hG _).setCell hG _).setCell hG _).setCell hG _
theorem own_set8 {w : World} {B : Nat} {e : TypeId} {v : Value} {xs : List Value} (h : Own1 w B e v xs) {G : Nat} (hG : v.ownBlock ≠ some G) (a0 a1 a2 a3 a4 a5 a6 a7 : Value) : Own1 (set8 w G a0 a1 a2 a3 a4 a5 a6 a7) B e v xs := by
  unfold Own1 at *
  exact ownsRow_setCell_other (ownsRow_setCell_other (ownsRow_setCell_other (ownsRow_setCell_other (ownsRow_setCell_other (ownsRow_setCell_other (ownsRow_setCell_other (ownsRow_setCell_other h hG _) hG _) hG _) hG _) hG _) hG _) hG _) hG _

theorem Own1.lower {w : World} {B B' : Nat} {e : TypeId} {v : Value} {xs : List Value} (h : Own1 w B e v xs) (hB : B' ≤ B) : Own1 w B' e v xs := by
  refine ⟨h.1, ?_⟩
  rcases h.2 with h2 | ⟨g, cap, cur, hv, hbg, r⟩
  · exact .inl h2
  · exact .inr ⟨g, cap, cur, hv, by omega, r⟩

theorem frozen_new (w : World) (cs : Array Value) (e : TypeId) (j : Nat) : (w.alloc (.cells cs e)).frozen? ⟨w.heap.size, j, none⟩ = false := frozen_of_row _ _ j cs e (heap_alloc_new w _)

theorem block_up {w w1 : World} {o : Obj} (hb : Below (w.alloc o).heap.size (w.alloc o) w1) : w1.heap[w.heap.size]? = some o := by
  rw [hb.block _ (by simp)]; exact heap_alloc_new w o
theorem set8_block {w : World} {G : Nat} {e : TypeId} {z0 z1 z2 z3 z4 z5 z6 z7 : Value} (h : w.heap[G]? = some (.cells #[z0, z1, z2, z3, z4, z5, z6, z7] e)) (a0 a1 a2 a3 a4 a5 a6 a7 : Value) :
    (set8 w G a0 a1 a2 a3 a4 a5 a6 a7).heap[G]? = some (.cells #[a0, a1, a2, a3, a4, a5, a6, a7] e) := by
  have h0 := heap_setCell_same _ G 0 _ e a0 h
  rw [show (#[z0, z1, z2, z3, z4, z5, z6, z7] : Array Value).setIfInBounds 0 a0 = #[a0, z1, z2, z3, z4, z5, z6, z7] by simp] at h0
  have h1 := heap_setCell_same _ G 1 _ e a1 h0
  rw [show (#[a0, z1, z2, z3, z4, z5, z6, z7] : Array Value).setIfInBounds 1 a1 = #[a0, a1, z2, z3, z4, z5, z6, z7] by simp] at h1
  have h2 := heap_setCell_same _ G 2 _ e a2 h1
  rw [show (#[a0, a1, z2, z3, z4, z5, z6, z7] : Array Value).setIfInBounds 2 a2 = #[a0, a1, a2, z3, z4, z5, z6, z7] by simp] at h2
  have h3 := heap_setCell_same _ G 3 _ e a3 h2
  rw [show (#[a0, a1, a2, z3, z4, z5, z6, z7] : Array Value).setIfInBounds 3 a3 = #[a0, a1, a2, a3, z4, z5, z6, z7] by simp] at h3
  have h4 := heap_setCell_same _ G 4 _ e a4 h3
  rw [show (#[a0, a1, a2, a3, z4, z5, z6, z7] : Array Value).setIfInBounds 4 a4 = #[a0, a1, a2, a3, a4, z5, z6, z7] by simp] at h4
  have h5 := heap_setCell_same _ G 5 _ e a5 h4
  rw [show (#[a0, a1, a2, a3, a4, z5, z6, z7] : Array Value).setIfInBounds 5 a5 = #[a0, a1, a2, a3, a4, a5, z6, z7] by simp] at h5
  have h6 := heap_setCell_same _ G 6 _ e a6 h5
  rw [show (#[a0, a1, a2, a3, a4, a5, z6, z7] : Array Value).setIfInBounds 6 a6 = #[a0, a1, a2, a3, a4, a5, a6, z7] by simp] at h6
  have h7 := heap_setCell_same _ G 7 _ e a7 h6
  rw [show (#[a0, a1, a2, a3, a4, a5, a6, z7] : Array Value).setIfInBounds 7 a7 = #[a0, a1, a2, a3, a4, a5, a6, a7] by simp] at h7
  exact h7
theorem vec_size : (Tryd.prog.info? 35).map (·.size) = some 8 := by kernel_rfl
theorem ret_vec {fn : Func} {p : Tmp} (h : fn.results = #[.cell p 35]) (tmps : Array Value) (w : World) (G : Nat) {e : TypeId} {a0 a1 a2 a3 a4 a5 a6 a7 : Value}
    (hp : tmps.getD p undef = .pointer (some ⟨G, 0, none⟩)) (hg : w.heap[G]? = some (.cells #[a0, a1, a2, a3, a4, a5, a6, a7] e)) :
    (results fn tmps).run Tryd.prog w = .ok (.agg #[a0, a1, a2, a3, a4, a5, a6, a7]) w :=
  results_cell_row h tmps w G e _ (0, 0) _ hp hg Tryd.underlying35 rfl vec_size
theorem ret_vec2 {fn : Func} {p u : Tmp} (h : fn.results = #[.cell p 35, .tmp u]) (tmps : Array Value) (w : World) (G : Nat) {e : TypeId} {a0 a1 a2 a3 a4 a5 a6 a7 : Value}
    (hp : tmps.getD p undef = .pointer (some ⟨G, 0, none⟩)) (hg : w.heap[G]? = some (.cells #[a0, a1, a2, a3, a4, a5, a6, a7] e)) :
    (results fn tmps).run Tryd.prog w = .ok (.tuple #[.agg #[a0, a1, a2, a3, a4, a5, a6, a7], tmps.getD u undef]) w := by
  rw [results_cell_tmp h, hp]
  have := run_loadVar_row (P := Tryd.prog) w G e 35 _ (0, 0) _ hg Tryd.underlying35 rfl vec_size
  simp [asAddr, Result.andThen, this]

set_option maxHeartbeats 1000000 in
theorem smalls_any {w : World} {v : Value} {l : List Int} (h : Reads1 w v (l.map (.int .i8))) (hl : l.length ≤ 1000000) :
    Calls Tryd.prog 79 #[v] w fun e w' => ∃ u, e = .returned (vecV 2 vnil 0 u vnil vnil vnil vnil) ∧ Own1 w' w.heap.size 94 u (l.map (.int .i8)) ∧ Below w.heap.size w w' := by
  have HR := Lib.hid h
  have HC := Lib.hid (fun w2 (hb : Below w.heap.size w w2) => cl8_any (h.below hb) (by rw [List.length_map]; omega) (by intro u hu; obtain ⟨z, _, rfl⟩ := List.mem_map.1 hu; rfl))
  clear h
  go_enter Tryd.func79, Tryd.ntmps79
  go_wp2_with fail
  refine (HC.out _ (bel1 _ _)).mono ?_
  rintro e w1 ⟨u, rfl, ho, hb1⟩
  have HB1 := Lib.hid ((bel1 w _).trans (hb1.mono (bel1 w _).size))
  obtain ⟨h0, h1, h2, h3, h4, h5, h6, h7⟩ := (boxed_new w 35 0 vnil 0 vnil vnil vnil vnil vnil).below hb1
  have HK := Lib.hid (block_up hb1)
  have hz : ∀ j, w1.frozen? ⟨w.heap.size, j, none⟩ = false := fun j => by rw [hb1.frozen (by simp)]; exact frozen_new _ _ _ _
  have HNE : Hid (u.ownBlock ≠ some w.heap.size) := fun e => by have := (World.ownsRow.lt ho _ e).1; simp at this; omega
  have HO := Lib.hid ho
  obtain ⟨a, n, c, hu⟩ : ∃ a n c, u = .slice a n c := by obtain ⟨a, c, e⟩ := ho.reads.len; exact ⟨a, _, c, e⟩
  subst hu
  clear hb1 ho
  go_wp2
  exact bodyPost_ret (ret_vec rfl _ _ _ rfl (set8_block HK.out _ _ _ _ _ _ _ _)) rfl ⟨_, rfl, own_set8 (HO.out.lower (by simp)) HNE.out _ _ _ _ _ _ _ _, below_set8 HB1.out (Nat.le_refl _) _ _ _ _ _ _ _ _⟩
set_option maxHeartbeats 1000000 in
theorem chars_any {w : World} {v : Value} {l : List Int} (h : Reads1 w v (l.map (.int .i32))) (hl : l.length ≤ 1000000) :
    Calls Tryd.prog 17 #[v] w fun e w' => ∃ u, e = .returned (vecV 5 vnil 0 vnil vnil vnil u vnil) ∧ Own1 w' w.heap.size 21 u (l.map (.int .i32)) ∧ Below w.heap.size w w' := by
  have HR := Lib.hid h
  have HC := Lib.hid (fun w2 (hb : Below w.heap.size w w2) => clR_any (h.below hb) (by rw [List.length_map]; omega) (by intro u hu; obtain ⟨z, _, rfl⟩ := List.mem_map.1 hu; rfl))
  clear h
  go_enter Tryd.func17, Tryd.ntmps17
  go_wp2_with fail
  refine (HC.out _ (bel1 _ _)).mono ?_
  rintro e w1 ⟨u, rfl, ho, hb1⟩
  have HB1 := Lib.hid ((bel1 w _).trans (hb1.mono (bel1 w _).size))
  obtain ⟨h0, h1, h2, h3, h4, h5, h6, h7⟩ := (boxed_new w 35 0 vnil 0 vnil vnil vnil vnil vnil).below hb1
  have HK := Lib.hid (block_up hb1)
  have hz : ∀ j, w1.frozen? ⟨w.heap.size, j, none⟩ = false := fun j => by rw [hb1.frozen (by simp)]; exact frozen_new _ _ _ _
  have HNE : Hid (u.ownBlock ≠ some w.heap.size) := fun e => by have := (World.ownsRow.lt ho _ e).1; simp at this; omega
  have HO := Lib.hid ho
  obtain ⟨a, n, c, hu⟩ : ∃ a n c, u = .slice a n c := by obtain ⟨a, c, e⟩ := ho.reads.len; exact ⟨a, _, c, e⟩
  subst hu
  clear hb1 ho
  go_wp2
  exact bodyPost_ret (ret_vec rfl _ _ _ rfl (set8_block HK.out _ _ _ _ _ _ _ _)) rfl ⟨_, rfl, own_set8 (HO.out.lower (by simp)) HNE.out _ _ _ _ _ _ _ _, below_set8 HB1.out (Nat.le_refl _) _ _ _ _ _ _ _ _⟩
set_option maxHeartbeats 1000000 in
theorem boxes_nil (w : World) : Calls Tryd.prog 18 #[.slice none 0 0] w fun e w' => e = .returned (vecV 6 vnil 0 vnil vnil vnil vnil vnil) ∧ Below w.heap.size w w' := by
  go_enter Tryd.func18, Tryd.ntmps18
  go_wp2_with fail
  refine (clA_nil 0 _).mono ?_
  rintro e w1 ⟨rfl, hw'⟩
  have hw := hw'.symm
  clear hw'
  have hb1 : Below (w.alloc (.cells #[.int .i64 0, .slice none 0 0, .int .i64 0, .slice none 0 0, .slice none 0 0, .slice none 0 0, .slice none 0 0, .slice none 0 0] 35)).heap.size (w.alloc (.cells #[.int .i64 0, .slice none 0 0, .int .i64 0, .slice none 0 0, .slice none 0 0, .slice none 0 0, .slice none 0 0, .slice none 0 0] 35)) w1 := by rw [hw]; exact Below.refl _ _
  have HB1 := Lib.hid ((bel1 w _).trans (hb1.mono (bel1 w _).size))
  obtain ⟨h0, h1, h2, h3, h4, h5, h6, h7⟩ := (boxed_new w 35 0 vnil 0 vnil vnil vnil vnil vnil).below hb1
  have HK := Lib.hid (block_up hb1)
  have hz : ∀ j, w1.frozen? ⟨w.heap.size, j, none⟩ = false := fun j => by rw [hb1.frozen (by simp)]; exact frozen_new _ _ _ _
  clear hb1 hw
  go_wp2
  exact bodyPost_ret (ret_vec rfl _ _ _ rfl (set8_block HK.out _ _ _ _ _ _ _ _)) rfl ⟨rfl, below_set8 HB1.out (Nat.le_refl _) _ _ _ _ _ _ _ _⟩

set_option maxRecDepth 100000 in
set_option maxHeartbeats 1000000 in
theorem ints_walk (b o n c : Nat) (l : List Int) (hn : n = l.length) (hl : n ≤ 1000000) (w : World) (hc : ∀ i (h : i < l.length), w.cell? ⟨b, o + i, none⟩ = some (.int .i64 l[i])) (hg : ∀ x ∈ l, -9007199254740992 ≤ x ∧ x ≤ 9007199254740992) :
    Calls Tryd.prog 52 #[.slice (some ⟨b, o, none⟩) n c] w fun e w' => ∃ u, e = .returned (.tuple #[vecV 3 vnil 0 vnil u vnil vnil vnil, .bool true]) ∧ Own1 w' w.heap.size 2 u (l.map (.int .i64)) ∧ Below w.heap.size w w' := by
  have HR : Hid (Reads1 w (.slice (some ⟨b, o, none⟩) n c) (l.map (.int .i64))) := .inr ⟨b, o, n, c, rfl, by rw [List.length_map]; exact hn, fun i hi => by rw [hc i (by simpa using hi)]; simp⟩
  have HC := Lib.hid (fun w2 (hb : Below w.heap.size w w2) => cl64_any (HR.out.below hb) (by rw [List.length_map]; omega) (by intro u hu; obtain ⟨z, _, rfl⟩ := List.mem_map.1 hu; rfl))
  have HCC := Lib.hid hc
  have HG := Lib.hid hg
  have HN := Lib.hid hn
  clear hc hg hn
  go_enter Tryd.func52, Tryd.ntmps52
  go_wp2
  go_loopw [8] (fun j wr => ∃ m : Nat, m ≤ n ∧ j = .int .i64 m ∧ wr = w.alloc (.cells #[.int .i64 0, .slice none 0 0, .int .i64 0, .slice none 0 0, .slice none 0 0, .slice none 0 0, .slice none 0 0, .slice none 0 0] 35)) (fun j _ => n - (intOf j).toNat)
  case atStart => exact ⟨0, Nat.zero_le _, rfl, rfl⟩
  case round =>
    obtain ⟨m, hm, rfl, rfl⟩ := hrel
    by_cases hlt : m < n
    · have hlt' : m < l.length := by rw [← HN.out]; exact hlt
      have hcell := fun a => cell_box1 (HCC.out m hlt') a
      obtain ⟨hx1, hx2⟩ := HG.out l[m] (List.getElem_mem _)
      generalize l[m] = x at *
      go_wp2
      go_roundw
      case rel => exact ⟨m + 1, by omega, by go_num, by first | trivial | rfl⟩
      case measure => simp [intOf]; omega
    · obtain rfl : m = n := by omega
      go_wp2_with fail
      refine (HC.out _ (bel1 _ _)).mono ?_
      rintro e w1 ⟨u, rfl, ho, hb1⟩
      have HB1 := Lib.hid ((bel1 w _).trans (hb1.mono (bel1 w _).size))
      obtain ⟨h0, h1, h2, h3, h4, h5, h6, h7⟩ := (boxed_new w 35 0 vnil 0 vnil vnil vnil vnil vnil).below hb1
      have HK := Lib.hid (block_up hb1)
      have hz : ∀ j, w1.frozen? ⟨w.heap.size, j, none⟩ = false := fun j => by rw [hb1.frozen (by simp)]; exact frozen_new _ _ _ _
      have HNE : Hid (u.ownBlock ≠ some w.heap.size) := fun e => by have := (World.ownsRow.lt ho _ e).1; simp at this; omega
      have HO := Lib.hid ho
      obtain ⟨a, n, c, hu⟩ : ∃ a n c, u = .slice a n c := by obtain ⟨a, c, e⟩ := ho.reads.len; exact ⟨a, _, c, e⟩
      subst hu
      clear hb1 ho
      go_wp2
      refine bodyPost_ret (v := .tuple #[vecV 3 vnil 0 vnil (.slice a n c) vnil vnil vnil, .bool true]) ?_ rfl ⟨.slice a n c, rfl, own_set8 (HO.out.lower (by simp)) HNE.out _ _ _ _ _ _ _ _, below_set8 HB1.out (Nat.le_refl _) _ _ _ _ _ _ _ _⟩
      exact ret_vec2 (fn := Tryd.f52) (p := 2) (u := 3) rfl _ _ w.heap.size (by rfl) (set8_block HK.out _ _ _ _ _ _ _ _)
end Go.Proofs.YtdddmehchfnppaaDoor
