/- Merged texts. The walk of rebusref24.Pair at two numbers. Conditions: tidy numbers. The walk of rebusref11.Apply at two single items, one of which is a character. Conditions: tidy numbers. The walk of rebusref24.Pair where one of the two is a character, at equal and unlike. Conditions: tidy numbers. Words for the walk of rebusref24.Two: arguments, results, and the memory of its loops. Conditions: as each theorem says. The walks of rebusref24.Two. Conditions: as each theorem says. -/
import Derived.Test.YtiahegjdkejjpaaGreatMg35
import Derived.Deep.CutRange
import Derived.Test.YtiahegjdkejjpaaGreatMg34
namespace Go.Proofs.YtiahegjdkejjpaaGreat
open Go Go.RowKit Go.Proofs Fl
theorem ret_item2 {fn : Func} {p u : Tmp} (h : fn.results = #[.cell p 53, .tmp u]) (tmps : Array Value) (w : World) (G : Nat) {e : TypeId} {a0 a1 a2 a3 : Value}
  (hp : tmps.getD p undef = .pointer (some ⟨G, 0, none⟩)) (hg : w.heap[G]? = some (.cells #[a0, a1, a2, a3] e)) :
  (results fn tmps).run Tryz.prog w = .ok (.tuple #[.agg #[a0, a1, a2, a3], tmps.getD u undef]) w := by
 rw [results_cell_tmp h, hp]
 have := run_loadVar_row (P := Tryz.prog) w G e 53 _ (0, 0) _ hg Tryz.underlying53 rfl item_size
 simp [asAddr, Result.andThen, this]
set_option maxRecDepth 100000 in
set_option maxHeartbeats 1000000 in
theorem rpair_num (f : Int) (hk : knownB f = true) (a b : Nat) (ha : TF a) (hb : TF b) (c1 c2 : Int) (y1 y2 : Sl) (W : World) :
  Calls Tryz.prog 29 #[.int .i64 f, itV 0 a c1 y1, itV 0 b c2 y2] W fun e w' => e = .returned (.tuple #[itV 0 (oneP pwP f a b).1 0 nilS, .int .i64 (oneP pwP f a b).2]) ∧ Below W.heap.size W w' := by
 have HO : Hid (∀ W', Calls Tryz.prog 49 #[.int .i64 f, .float .f64 a, .float .f64 b] W' fun e w' => e = .returned (.tuple #[.float .f64 (oneP pwP f a b).1, .int .i64 (oneP pwP f a b).2]) ∧ Below W'.heap.size W' w') := fun W' => (rone_any powIs f hk a b ha hb W').mono fun e w' ⟨h1, h2⟩ => ⟨h1, h2 ▸ Below.refl _ _⟩
 generalize oneP pwP f a b = r at HO
 obtain ⟨x, E⟩ := r
 dsimp only at HO ⊢
 have HA := Lib.hid (at4_box W 0 a c1 y1)
 have HB := Lib.hid (at4_box (W.alloc (itO 0 a c1 y1)) 0 b c2 y2)
 have HR := Lib.hid (heap_alloc_new ((W.alloc (itO 0 a c1 y1)).alloc (itO 0 b c2 y2)) (itO 0 0 0 nilS))
 clear ha hb
 go_enter Tryz.func29, Tryz.ntmps29
 go_wp2_with fail
 refine (HO.out _).mono ?_
 rintro e w1 ⟨rfl, hb1⟩
 have hr : w1.heap[W.heap.size + 2]? = some (itO 0 0 0 nilS) := by
  have h := block_up hb1
  simpa using h
 have HR1 := Lib.hid hr
 have HB1 : Hid (Below W.heap.size W w1) := bel_both (bel_both (bel2 W _ _) (bel1 _ _)) hb1
 obtain ⟨⟨z0, z1, z2, z3⟩, zz⟩ := block4 hr
 have h0 := heap_setCell_same w1 (W.heap.size + 2) 0 _ _ (.int .i64 0) hr
 rw [show (#[.int .i64 0, .float .f64 0, .int .i32 0, .slice nilS.1 nilS.2.1 nilS.2.2] : Array Value).setIfInBounds 0 (.int .i64 0) = #[.int .i64 0, .float .f64 0, .int .i32 0, .slice nilS.1 nilS.2.1 nilS.2.2] by simp] at h0
 obtain ⟨⟨_, v1, _, _⟩, vz⟩ := block4 h0
 have hst := fun md => store_float v1 (vz 1) .f64 x md
 have HRE := Lib.hid (set4_block HR1.out (.int .i64 0) (.float .f64 x) (.int .i32 0) (.slice none 0 0))
 have HBE := Lib.hid (below_set4 HB1.out (Nat.le_add_right _ 2) (.int .i64 0) (.float .f64 x) (.int .i32 0) (.slice none 0 0))
 clear hb1 hr h0 v1 vz
 go_wp2
 refine bodyPost_ret (v := .tuple #[itV 0 x 0 nilS, .int .i64 E]) ?_ rfl ⟨rfl, HBE.out⟩
 exact ret_item2 (fn := Tryz.f29) (p := 6) (u := 7) rfl _ _ (W.heap.size + 2) (by rfl) HRE.out
structure It2 (w : World) (b1 b2 : Nat) (k1 : Int) (n1 : Nat) (c1 : Int) (y1 : Sl) (k2 : Int) (n2 : Nat) (c2 : Int) (y2 : Sl) : Prop where
 one : At4 w b1 0 k1 n1 c1 y1
 two : At4 w b2 0 k2 n2 c2 y2
abbrev itE (k : Int) (n : Nat) (c : Int) (y : Value) : Obj := .cells #[.int .i64 k, .float .f64 n, .int .i32 c, y] 53
theorem st_it1 (w : World) (k : Int) (x n : Nat) (c : Int) (y : Value) (o : Obj) (md : Mode) :
  (store ⟨w.heap.size, 1, none⟩ (.float .f64 n) md).run Tryz.prog ((w.alloc (itE k x c y)).alloc o).drew = .ok () ((w.alloc (itE k n c y)).alloc o).drew := by
 have hg : ((w.alloc (itE k x c y)).alloc o).drew.heap[w.heap.size]? = some (itE k x c y) := by
  show ((w.alloc (itE k x c y)).alloc o).heap[w.heap.size]? = _
  rw [(bel1 _ o).block _ (by simp)]
  exact heap_alloc_new w _
 have hc : ((w.alloc (itE k x c y)).alloc o).drew.cell? ⟨w.heap.size, 1, none⟩ = some (.float .f64 x) := by
  rw [cell_of_row _ w.heap.size 1 _ _ (0, 0) hg]; rfl
 have hz : ((w.alloc (itE k x c y)).alloc o).drew.frozen? ⟨w.heap.size, 1, none⟩ = false := frozen_of_row _ _ _ _ _ hg
 rw [store_float hc hz .f64 n md, World.setCell_drew, World.setCell_alloc_past _ _ _ _ (by simp), World.setCell_alloc_at _ _ _ _ _ rfl]
 rfl
theorem st_it2 (w : World) (k : Int) (x n : Nat) (c : Int) (y : Value) (o : Obj) (md : Mode) :
  (store ⟨w.heap.size + 1, 1, none⟩ (.float .f64 n) md).run Tryz.prog ((w.alloc o).alloc (itE k x c y)).drew = .ok () ((w.alloc o).alloc (itE k n c y)).drew := by
 have e : (w.alloc o).heap.size = w.heap.size + 1 := by simp
 have hg : ((w.alloc o).alloc (itE k x c y)).drew.heap[w.heap.size + 1]? = some (itE k x c y) := by
  have h := heap_alloc_new (w.alloc o) (itE k x c y)
  rw [e] at h
  exact h
 have hc : ((w.alloc o).alloc (itE k x c y)).drew.cell? ⟨w.heap.size + 1, 1, none⟩ = some (.float .f64 x) := by
  rw [cell_of_row _ (w.heap.size + 1) 1 _ _ (0, 0) hg]; rfl
 have hz : ((w.alloc o).alloc (itE k x c y)).drew.frozen? ⟨w.heap.size + 1, 1, none⟩ = false := frozen_of_row _ _ _ _ _ hg
 rw [store_float hc hz .f64 n md, World.setCell_drew, World.setCell_alloc_at _ _ _ _ _ e.symm]
 rfl
theorem own_one {w : World} {B : Nat} {e : TypeId} {v x : Value} (h : Own1 w B e v ([] ++ [x])) : ∃ G o c, v = .slice (some ⟨G, o, none⟩) 1 c ∧ w.cell? ⟨G, o, none⟩ = some x := by
 rcases h.reads with ⟨_, _, _, h0⟩ | ⟨b, o, n, c, rfl, hn, hc⟩
 ·cases h0
 ·have hn1 : n = 1 := by simpa using hn
  subst hn1
  exact ⟨b, o, c, rfl, by have := hc 0 (by simp); simpa using this⟩
def ItMid (w : World) (k1 : Int) (n1 : Nat) (c1 : Int) (y1 : Sl) (k2 : Int) (n2 : Nat) (c2 : Int) (y2 : Sl) (x y : Value) (wx : World) : Prop :=
 ∃ V1 V2, x = .pointer (some ⟨V1, 0, none⟩) ∧ y = .pointer (some ⟨V2, 0, none⟩) ∧ wx.heap[V1]? = some (itO k1 n1 c1 y1) ∧ wx.heap[V2]? = some (itO k2 n2 c2 y2) ∧ Below w.heap.size w wx
theorem itMid_a (w : World) (k1 : Int) (n1 : Nat) (c1 : Int) (y1 : Sl) (k2 : Int) (n2 : Nat) (c2 : Int) (y2 : Sl) : ItMid w k1 n1 c1 y1 k2 n2 c2 y2 (.pointer (some ⟨w.heap.size, 0, none⟩)) (.pointer (some ⟨w.heap.size + 1, 0, none⟩)) ((w.alloc (itO k1 n1 c1 y1)).alloc (itO k2 n2 c2 y2)).drew := by
 have e : (w.alloc (itO k1 n1 c1 y1)).heap.size = w.heap.size + 1 := by simp
 refine ⟨_, _, rfl, rfl, ?_, ?_, (bel2 w _ _).drew⟩
 ·show ((w.alloc (itO k1 n1 c1 y1)).alloc (itO k2 n2 c2 y2)).heap[w.heap.size]? = _
  rw [(bel1 _ _).block _ (by simp)]
  exact heap_alloc_new w _
 ·have h := heap_alloc_new (w.alloc (itO k1 n1 c1 y1)) (itO k2 n2 c2 y2)
  rw [e] at h
  exact h
theorem itMid_b (w : World) (k1 : Int) (n1 : Nat) (c1 : Int) (y1 : Sl) (k2 : Int) (n2 : Nat) (c2 : Int) (y2 : Sl) : ItMid w k1 n1 c1 y1 k2 n2 c2 y2 (.pointer (some ⟨w.heap.size + 1, 0, none⟩)) (.pointer (some ⟨w.heap.size, 0, none⟩)) ((w.alloc (itO k2 n2 c2 y2)).alloc (itO k1 n1 c1 y1)).drew := by
 obtain ⟨V1, V2, h1, h2, h3, h4, h5⟩ := itMid_a w k2 n2 c2 y2 k1 n1 c1 y1
 exact ⟨V2, V1, h2, h1, h4, h3, h5⟩
def RapC (f k1 k2 c1 c2 : Int) (v : Bool) : Prop :=
 ((f = 13 ∧ v = false) ∨ (f = 16 ∧ v = true)) ∧ ((k1 = 0 ∧ k2 = 1) ∨ (k1 = 1 ∧ k2 = 0) ∨ (k1 = 1 ∧ k2 = 1 ∧ (c1 == c2) = false)) ∨ ((f = 13 ∧ v = true) ∨ (f = 16 ∧ v = false)) ∧ (k1 = 1 ∧ k2 = 1 ∧ c1 = c2)
set_option maxRecDepth 100000 in
set_option maxHeartbeats 16000000 in
theorem rapply_two (f k1 k2 : Int) (v : Bool) (b1 b2 : Nat) (n1 : Nat) (c1 : Int) (y1 : Sl) (n2 : Nat) (c2 : Int) (y2 : Sl) (hc : RapC f k1 k2 c1 c2 v) (w : World) (hs : It2 w b1 b2 k1 n1 c1 y1 k2 n2 c2 y2) (t1 : TF n1) (t2 : TF n2) :
  Calls Tryz.prog 50 #[.int .i64 f, .slice (some ⟨b1, 0, none⟩) 1 1, .int .i64 k1, .slice (some ⟨b2, 0, none⟩) 1 1, .int .i64 k2] w fun e w' => ∃ G o c, e = .returned (.tuple #[.slice (some ⟨G, o, none⟩) 1 c, .int .i64 0]) ∧ w'.cell? ⟨G, o, none⟩ = some (.bool v) ∧ Below w.heap.size w w' := by
 have HL := Lib.hid (fun W => rlen_any 1 1 1 rfl W)
 have HO := Lib.hid (fun (h1 : 11 ≤ f) (h2 : f ≤ 16) W => ref11_any f h1 h2 n1 n2 t1 t2 W)
 have HS := Lib.hid hs
 have f1 := fun o md => st_it1 w k1 0 n1 0 (.slice none 0 0) o md
 have f2 := fun o md => st_it2 w k2 0 n2 0 (.slice none 0 0) o md
 have f3 := fun o md => st_it2 w k1 0 n1 0 (.slice none 0 0) o md
 have f4 := fun o md => st_it1 w k2 0 n2 0 (.slice none 0 0) o md
 generalize relB f n1 n2 = rb at HO
 clear hs t1 t2
 rcases hc with ⟨⟨rfl, rfl⟩ | ⟨rfl, rfl⟩, ⟨rfl, rfl⟩ | ⟨rfl, rfl⟩ | ⟨rfl, rfl, hne⟩⟩ | ⟨⟨rfl, rfl⟩ | ⟨rfl, rfl⟩, rfl, rfl, rfl⟩
 all_goals
  go_enter Tryz.func50, Tryz.ntmps50
  go_wp2_with fail
  refine (HL.out _).mono ?_
  rintro e w1 ⟨rfl, rfl⟩
  go_wp2_with fail
  refine wp_loop_rounds 2 ?_
  rw [rounds_succ]
  go_wp2_with fail
  go_cut [15, 16] from 54 to 110 (fun x y wx => ItMid w _ n1 c1 y1 _ n2 _ y2 x y wx)
  case first =>
   obtain ⟨a0, a1, a2, a3⟩ := HS.out.one
   obtain ⟨e0, e1, e2, e3⟩ := HS.out.two
   dsimp only [sv] at a3 e3
   have r0 := fun o o' => cell_box2 a0 o o'
   have r0' := fun o => cell_box1 a0 o
   have r1 := fun o o' => cell_box2 a1 o o'
   have r1' := fun o => cell_box1 a1 o
   have r2 := fun o o' => cell_box2 a2 o o'
   have r2' := fun o => cell_box1 a2 o
   have r3 := fun o o' => cell_box2 a3 o o'
   have r3' := fun o => cell_box1 a3 o
   have s0 := fun o o' => cell_box2 e0 o o'
   have s0' := fun o => cell_box1 e0 o
   have s1 := fun o o' => cell_box2 e1 o o'
   have s1' := fun o => cell_box1 e1 o
   have s2 := fun o o' => cell_box2 e2 o o'
   have s2' := fun o => cell_box1 e2 o
   have s3 := fun o o' => cell_box2 e3 o o'
   have s3' := fun o => cell_box1 e3 o
   go_region
   all_goals
    go_wp2
    go_meet
    first
     | (with_reducible exact itMid_a w _ _ _ _ _ _ _ _)
     | (with_reducible exact itMid_b w _ _ _ _ _ _ _ _)
  obtain ⟨V1, V2, rfl, rfl, hv1, hv2, hb⟩ := hcut
  have HB := Lib.hid hb
  obtain ⟨⟨p0, p1, p2, p3⟩, pz⟩ := block4 hv1
  obtain ⟨⟨q0, q1, q2, q3⟩, qz⟩ := block4 hv2
  clear hb HS hv1 hv2 f1 f2 f3 f4
  go_wp2_with fail
  refine (HO.out (by decide) (by decide) _).mono ?_
  rintro e w2 ⟨rfl, rfl⟩
  obtain ⟨w4, hw4⟩ : ∃ w4, w4 = wc := ⟨_, rfl⟩
  subst hw4
  go_wp2_with (at_builtin; refine wpList_push1' rfl (.tmp 107) (.tmp 109) 91 4 rfl Tryz.underlying91 (.bool false) 1 info_bool rfl w.heap.size (.slice none 0 0) [] rfl (Own1.nil _ _ _) (.bool _) rfl w4.heap.size rfl rfl (by decide) (by decide) HB.out.size ?_; intro v' w5 hv' hb'; (obtain ⟨G, o, c, rfl, hG⟩ := own_one hv'); have HB5 := Lib.hid (hb' w HB.out); have HG := Lib.hid hG; clear hb' hv' hG)
  rw [rounds_succ]
  go_wp2
  go_ret2
  exact ⟨G, o, c, rfl, HG.out, HB5.out⟩
def OneB (w : World) (v : Bool) (e : Ending) (w' : World) : Prop := ∃ G o c, e = .returned (.tuple #[.slice (some ⟨G, o, none⟩) 1 c, .int .i64 0]) ∧ w'.cell? ⟨G, o, none⟩ = some (.bool v) ∧ Below w.heap.size w w'
set_option maxRecDepth 100000 in
set_option maxHeartbeats 2000000 in
theorem rpair_over (f k1 k2 : Int) (n1 n2 : Nat) (c1 c2 : Int) (y1 y2 : Sl) (v : Bool) (hf : (f != 13) = false ∨ ((f != 13) = true ∧ (f != 16) = false)) (hk : (k1 == 0) = false ∨ ((k1 == 0) = true ∧ (k2 == 0) = false))
  (hA : ∀ (W : World) (b1 b2 : Nat), It2 W b1 b2 k1 n1 c1 y1 k2 n2 c2 y2 → Calls Tryz.prog 50 #[.int .i64 f, .slice (some ⟨b1, 0, none⟩) 1 1, .int .i64 k1, .slice (some ⟨b2, 0, none⟩) 1 1, .int .i64 k2] W (OneB W v)) (W : World) :
  Calls Tryz.prog 29 #[.int .i64 f, itV k1 n1 c1 y1, itV k2 n2 c2 y2] W fun e w' => e = .returned (.tuple #[itV 0 (flagF v) 0 nilS, .int .i64 0]) ∧ Below W.heap.size W w' := by
 obtain ⟨w3, hw3⟩ : ∃ w3, w3 = ((W.alloc (itO k1 n1 c1 y1)).alloc (itO k2 n2 c2 y2)).alloc (itO 0 0 0 nilS) := ⟨_, rfl⟩
 obtain ⟨w5, hw5⟩ : ∃ w5, w5 = (w3.alloc (itO k1 n1 c1 y1)).alloc (itO k2 n2 c2 y2) := ⟨_, rfl⟩
 have hz3 : w3.heap.size = W.heap.size + 3 := by rw [hw3]; simp
 have hB3 : Below W.heap.size W w3 := by rw [hw3]; exact bel3 W _ _ _
 have hR3 : w3.heap[W.heap.size + 2]? = some (itO 0 0 0 nilS) := by
  have h := heap_alloc_new ((W.alloc (itO k1 n1 c1 y1)).alloc (itO k2 n2 c2 y2)) (itO 0 0 0 nilS)
  rw [← hw3, show ((W.alloc (itO k1 n1 c1 y1)).alloc (itO k2 n2 c2 y2)).heap.size = W.heap.size + 2 by simp] at h
  exact h
 have hI : It2 w5 (W.heap.size + 3) (W.heap.size + 3 + 1) k1 n1 c1 y1 k2 n2 c2 y2 := by
  have h1 := (at4_box w3 k1 n1 c1 y1).of (w' := w5) fun j => by rw [hw5]; exact (bel1 _ _).cell (p := ⟨w3.heap.size, j, none⟩) (by simp)
  have h2 := at4_box (w3.alloc (itO k1 n1 c1 y1)) k2 n2 c2 y2
  rw [← hw5, show (w3.alloc (itO k1 n1 c1 y1)).heap.size = w3.heap.size + 1 by simp] at h2
  rw [hz3] at h1 h2
  exact ⟨h1, h2⟩
 have HA := Lib.hid (hA w5 _ _ hI)
 have HB5 : Hid (Below W.heap.size W w5) := by unfold Hid; rw [hw5]; exact bel_both hB3 (bel2 w3 _ _)
 have HR5 : Hid (w5.heap[W.heap.size + 2]? = some (itO 0 0 0 nilS)) := by unfold Hid; rw [hw5, (bel2 w3 _ _).block _ (lt_blk hR3)]; exact hR3
 have HW5 : Hid (w5 = ((((W.alloc (itO k1 n1 c1 y1)).alloc (itO k2 n2 c2 y2)).alloc (itO 0 0 0 nilS)).alloc (itO k1 n1 c1 y1)).alloc (itO k2 n2 c2 y2)) := by unfold Hid; rw [hw5, hw3]
 unfold OneB at HA
 clear hA hw3 hw5 hz3 hB3 hR3 hI
 rcases hf with f1 | ⟨f1, f2⟩
 all_goals
  rcases hk with e1 | ⟨e1, e2⟩
  all_goals
   go_enter Tryz.func29, Tryz.ntmps29
   go_wp2_with fail
   rw [← HW5.out]
   refine HA.out.mono ?_
   rintro e w1 ⟨G, o, c, rfl, hG, hb1⟩
   have hr : w1.heap[W.heap.size + 2]? = some (itO 0 0 0 nilS) := by rw [hb1.block _ (lt_blk HR5.out)]; exact HR5.out
   have HR1 := Lib.hid hr
   have HB1 := Lib.hid (bel_both HB5.out hb1)
   obtain ⟨⟨z0, z1, z2, z3⟩, zz⟩ := block4 hr
   have h0 := heap_setCell_same w1 (W.heap.size + 2) 0 _ _ (.int .i64 0) hr
   rw [show (#[.int .i64 0, .float .f64 0, .int .i32 0, .slice nilS.1 nilS.2.1 nilS.2.2] : Array Value).setIfInBounds 0 (.int .i64 0) = #[.int .i64 0, .float .f64 0, .int .i32 0, .slice nilS.1 nilS.2.1 nilS.2.2] by simp] at h0
   obtain ⟨⟨_, v1, _, _⟩, vz⟩ := block4 h0
   cases v
   ·have hst := fun md => store_float v1 (vz 1) .f64 0 md
    have HRE := Lib.hid (set4_block HR1.out (.int .i64 0) (.float .f64 0) (.int .i32 0) (.slice none 0 0))
    have HBE := Lib.hid (below_set4 HB1.out (Nat.le_add_right _ 2) (.int .i64 0) (.float .f64 0) (.int .i32 0) (.slice none 0 0))
    clear hb1 hr h0 v1 vz
    go_wp2
    refine bodyPost_ret (v := .tuple #[itV 0 0 0 nilS, .int .i64 0]) ?_ rfl ⟨rfl, HBE.out⟩
    exact ret_item2 (fn := Tryz.f29) (p := 6) (u := 7) rfl _ _ (W.heap.size + 2) (by rfl) HRE.out
   ·have hst := fun md => store_float v1 (vz 1) .f64 4607182418800017408 md
    have HRE := Lib.hid (set4_block HR1.out (.int .i64 0) (.float .f64 4607182418800017408) (.int .i32 0) (.slice none 0 0))
    have HBE := Lib.hid (below_set4 HB1.out (Nat.le_add_right _ 2) (.int .i64 0) (.float .f64 4607182418800017408) (.int .i32 0) (.slice none 0 0))
    clear hb1 hr h0 v1 vz
    go_wp2
    refine bodyPost_ret (v := .tuple #[itV 0 4607182418800017408 0 nilS, .int .i64 0]) ?_ rfl ⟨rfl, HBE.out⟩
    exact ret_item2 (fn := Tryz.f29) (p := 6) (u := 7) rfl _ _ (W.heap.size + 2) (by rfl) HRE.out
abbrev shInts (s : List Nat) : List Value := (s.map Int.ofNat).map (Value.int .i64)
theorem rawP_mk (a : PA) : ∃ items, rawP a = .mk (a.shape.map Int.ofNat) items (a.fill : Nat) ∧ items.length = a.len := by
 cases a with
 | nums s l => exact ⟨_, by rw [rawP]; rfl, by simp [PA.len]⟩
 | chars s l => exact ⟨_, by rw [rawP]; rfl, by simp [PA.len]⟩
 | boxes s l => exact ⟨_, by rw [rawP]; rfl, rawBs_len l⟩
theorem pv_heads {H : Nat → Prop} {w : World} {a : PA} {h x : Sl} {f : Int} (g : PV H w (rawP a) h x f) : RdH H w (sv h) (shInts a.shape) ∧ f = (a.fill : Nat) ∧ x.2.1 = a.len := by
 obtain ⟨items, e, hl⟩ := rawP_mk a
 rw [e] at g
 obtain ⟨g1, g2, g3, _⟩ := g.open_
 exact ⟨g1, g2, by rw [g3, hl]⟩
theorem rd_nat {w : World} {v : Value} {s : List Nat} (h : Reads1 w v (shInts s)) : Reads1 w v (s.map fun n : Nat => .int .i64 (n : Int)) := by
 unfold shInts at h
 rw [List.map_map] at h
 exact h
def ArgOk (H : Nat → Prop) (w : World) (a : PA) (h x : Sl) (f : Int) : Prop :=
 (a.fill ≠ 2 ∧ RdH H w (sv h) (shInts a.shape) ∧ ∃ H1 : Nat → Prop, (∀ b, H1 b → b < w.heap.size) ∧ PV H1 w (rawP a) h x f) ∨ PV H w (rawP a) h x f
theorem ArgOk.sh {H : Nat → Prop} {w : World} {a : PA} {h x : Sl} {f : Int} (g : ArgOk H w a h x f) : RdH H w (sv h) (shInts a.shape) := by
 rcases g with ⟨_, g, _⟩ | g
 ·exact g
 ·exact (pv_heads g).1
theorem ArgOk.pv {H : Nat → Prop} {w : World} {a : PA} {h x : Sl} {f : Int} (hH : ∀ b, H b → b < w.heap.size) (g : ArgOk H w a h x f) : ∃ H1 : Nat → Prop, (∀ b, H1 b → b < w.heap.size) ∧ PV H1 w (rawP a) h x f := by
 rcases g with ⟨_, _, g⟩ | g
 ·exact g
 ·exact ⟨H, hH, g⟩
theorem ArgOk.box {H : Nat → Prop} {w : World} {a : PA} {h x : Sl} {f : Int} (g : ArgOk H w a h x f) (hf : a.fill = 2) : PV H w (rawP a) h x f := by
 rcases g with ⟨h0, _⟩ | g
 ·exact absurd hf h0
 ·exact g
theorem argOk_part {H H1 : Nat → Prop} {w w1 W5 : World} {a : PA} {i : Nat} {h x : Sl} {f : Int} (hb1 : Below w.heap.size w W5) (hb2 : Below w1.heap.size w1 W5) (hH1 : ∀ b, H1 b → b < w.heap.size)
  (hx : a.fill = 2 → ∀ b, H b → H1 b) (hfl : ∀ k n c, rawP (partA a i) = .mk [] [.mk k n c []] k → k ≠ 2 → (partA a i).fill ≠ 2 ∧ (partA a i).shape = []) (hof : a.fill ≠ 2 → ∃ k n c, rawP (partA a i) = .mk [] [.mk k n c []] k ∧ k ≠ 2)
  (hsz : w.heap.size ≤ W5.heap.size)
  (g : PV H1 w (rawP (partA a i)) h x f ∨ (h = nilS ∧ (∃ k n c, rawP (partA a i) = .mk [] [.mk k n c []] k ∧ k ≠ 2) ∧ PV H1 w1 (rawP (partA a i)) h x f)) : ArgOk (Hole H w W5) W5 (partA a i) h x f := by
 have hnil : ∀ (K : Nat → Prop) (s : List Nat) (W : World), s = [] → RdH K W (sv nilS) (shInts s) := fun K s W e => by subst e; exact fun _ _ _ => .inl ⟨none, 0, rfl, rfl⟩
 rcases g with g | ⟨rfl, ⟨k, n, c, e, hk⟩, g⟩
 ·by_cases h2 : a.fill = 2
  ·right
   have hs : PV H w (rawP (partA a i)) h x f := PV.sub (fun b _ e => hx h2 b e) g
   exact hs.arg hb1
  ·left
   obtain ⟨k, n, c, e, hk⟩ := hof h2
   obtain ⟨p1, p2⟩ := hfl k n c e hk
   refine ⟨p1, ?_, H1, fun b e => by have := hH1 b e; omega, g.step hb1⟩
   have hh := (pv_heads g).1
   rw [p2] at hh ⊢
   obtain ⟨aa, cc, e2⟩ := hh.now.len
   unfold sv at e2
   obtain ⟨h1, h2, h3⟩ := h
   injection e2 with _ e2 _
   have e3 : h2 = 0 := e2
   subst e3
   exact fun _ _ _ => .inl ⟨h1, h3, rfl, rfl⟩
 ·left
  obtain ⟨p1, p2⟩ := hfl k n c e hk
  exact ⟨p1, hnil _ _ _ p2, H1, fun b e => by have := hH1 b e; omega, g.step hb2⟩
def PvIf (H : Nat → Prop) (r : Int × PA) (h x : Sl) (fo : Int) (W : World) : Prop := r.1 = 0 → PV H W (rawP r.2) h x fo
def RtU (H : Nat → Prop) (w : World) (r : Int × PA) (e : Ending) (w' : World) : Prop := ∃ (h x : Sl) (fo : Int), e = .returned (.tuple #[plV h x fo, .int .i64 r.1]) ∧ PvIf H r h x fo w' ∧ Below w.heap.size w w'
theorem rtU_err {H : Nat → Prop} {w w' : World} {r : Int × PA} {E : Int} (h0 : r.1 = E) (hE : E ≠ 0) (hb : Below w.heap.size w w') : RtU H w r (.returned (.tuple #[plV nilS nilS 0, .int .i64 E])) w' := ⟨nilS, nilS, 0, by rw [h0], fun e => absurd (h0.symm.trans e) hE, hb⟩
theorem rtU_ok {H : Nat → Prop} {w w' : World} {r : Int × PA} {h x : Sl} {fo : Int} (h0 : r.1 = 0) (hp : PV H w' (rawP r.2) h x fo) (hb : Below w.heap.size w w') : RtU H w r (.returned (.tuple #[plV h x fo, .int .i64 0])) w' := ⟨h, x, fo, by rw [h0], fun _ => hp, hb⟩
def PvA (H : Nat → Prop) (w w1 : World) (a : PA) (h x : Sl) (f : Int) : Prop := PV H w (rawP a) h x f ∨ (h = nilS ∧ (∃ k n c, rawP a = .mk [] [.mk k n c []] k ∧ k ≠ 2) ∧ PV H w1 (rawP a) h x f)
def BelT (w1 W : World) : Prop := Below w1.heap.size w1 W
theorem BelT.refl (w : World) : BelT w w := Below.refl _ _
theorem BelT.step {w1 W W' : World} (g : BelT w1 W) (hb : Below W.heap.size W W') : BelT w1 W' := bel_both g hb
theorem BelT.dr {w1 W : World} (g : BelT w1 W) : BelT w1 W.drew := g.step (Below.refl _ W).drew
theorem BelT.al {w1 W : World} (g : BelT w1 W) (o : Obj) : BelT w1 (W.alloc o) := g.step (bel1 W o)
theorem BelT.self {w1 W : World} (g : BelT w1 W) : Below w1.heap.size w1 W := g
structure P3 (w W : World) (h1 x1 : Sl) (f1 : Int) (h2 x2 : Sl) (f2 : Int) : Prop where
 p2 : P2 w W h1 x1 f1 h2 x2 f2
 res : W.heap[w.heap.size + 2]? = some (plO nilS nilS 0)
theorem P3.step {w W W' : World} {h1 x1 h2 x2 : Sl} {f1 f2 : Int} (g : P3 w W h1 x1 f1 h2 x2 f2) (hb : Below W.heap.size W W') : P3 w W' h1 x1 f1 h2 x2 f2 := ⟨g.p2.step hb, by rw [hb.block _ (lt_blk g.res)]; exact g.res⟩
theorem P3.more {w W W' : World} {h1 x1 h2 x2 : Sl} {f1 f2 : Int} (g : P3 w W h1 x1 f1 h2 x2 f2) (hb : Below (w.heap.size + 3) W W') : P3 w W' h1 x1 f1 h2 x2 f2 := ⟨g.p2.more (hb.mono (by omega)), by rw [hb.block _ (by omega)]; exact g.res⟩
theorem P3.sz {w W : World} {h1 x1 h2 x2 : Sl} {f1 f2 : Int} (g : P3 w W h1 x1 f1 h2 x2 f2) : w.heap.size + 3 ≤ W.heap.size := lt_blk g.res
theorem P3.new (w : World) (h1 x1 : Sl) (f1 : Int) (h2 x2 : Sl) (f2 : Int) : P3 w (((w.alloc (plO h1 x1 f1)).alloc (plO h2 x2 f2)).alloc (plO nilS nilS 0)) h1 x1 f1 h2 x2 f2 := by
 have h := heap_alloc_new ((w.alloc (plO h1 x1 f1)).alloc (plO h2 x2 f2)) (plO nilS nilS 0)
 rw [show ((w.alloc (plO h1 x1 f1)).alloc (plO h2 x2 f2)).heap.size = w.heap.size + 2 by simp] at h
 exact ⟨(P2.new w h1 x1 f1 h2 x2 f2).step (bel1 _ _), h⟩
structure RtS (w wr : World) (h1 x1 : Sl) (f1 : Int) (h2 x2 : Sl) (f2 : Int) (W : World) : Prop where
 p3 : P3 w W h1 x1 f1 h2 x2 f2
 bel : Below wr.heap.size wr W
 lo : w.heap.size + 3 ≤ wr.heap.size
theorem RtS.step {w wr W W' : World} {h1 x1 h2 x2 : Sl} {f1 f2 : Int} (g : RtS w wr h1 x1 f1 h2 x2 f2 W) (hb : Below W.heap.size W W') : RtS w wr h1 x1 f1 h2 x2 f2 W' := ⟨g.p3.step hb, bel_both g.bel hb, g.lo⟩
theorem RtS.put {w wr W : World} {h1 x1 h2 x2 : Sl} {f1 f2 : Int} (g : RtS w wr h1 x1 f1 h2 x2 f2 W) {b j : Nat} (hb : wr.heap.size ≤ b) (u : Value) : RtS w wr h1 x1 f1 h2 x2 f2 (W.setCell ⟨b, j, none⟩ u) := ⟨g.p3.more ((Below.refl _ W).setCell (by show _ ≤ b; have := g.lo; omega) u), g.bel.setCell (by show _ ≤ b; exact hb) u, g.lo⟩
theorem RtS.dr {w wr W : World} {h1 x1 h2 x2 : Sl} {f1 f2 : Int} (g : RtS w wr h1 x1 f1 h2 x2 f2 W) : RtS w wr h1 x1 f1 h2 x2 f2 W.drew := g.step (Below.refl _ W).drew
theorem RtS.al {w wr W : World} {h1 x1 h2 x2 : Sl} {f1 f2 : Int} (g : RtS w wr h1 x1 f1 h2 x2 f2 W) (o : Obj) : RtS w wr h1 x1 f1 h2 x2 f2 (W.alloc o) := g.step (bel1 W o)
theorem RtS.self {w wr W : World} {h1 x1 h2 x2 : Sl} {f1 f2 : Int} (g : RtS w wr h1 x1 f1 h2 x2 f2 W) : RtS w wr h1 x1 f1 h2 x2 f2 W := g
theorem rts_s {w wr W : World} {h1 x1 h2 x2 : Sl} {f1 f2 : Int} (g : RtS w wr h1 x1 f1 h2 x2 f2 W) : ((W.cell? ⟨w.heap.size, 0, none⟩ = some (.slice h1.1 h1.2.1 h1.2.2) ∧ W.cell? ⟨w.heap.size, 1, none⟩ = some (.slice x1.1 x1.2.1 x1.2.2) ∧ W.cell? ⟨w.heap.size, 2, none⟩ = some (.int .i64 f1)) ∧
  (W.cell? ⟨w.heap.size + 1, 0, none⟩ = some (.slice h2.1 h2.2.1 h2.2.2) ∧ W.cell? ⟨w.heap.size + 1, 1, none⟩ = some (.slice x2.1 x2.2.1 x2.2.2) ∧ W.cell? ⟨w.heap.size + 1, 2, none⟩ = some (.int .i64 f2))) ∧ RtS w wr h1 x1 f1 h2 x2 f2 W := ⟨⟨at3_c g.p3.p2.one, at3_c g.p3.p2.two⟩, g⟩
def ZO (o : Obj) (Z : Nat) (W : World) : Prop := W.heap[Z]? = some o
theorem ZO.new (o : Obj) (W : World) : ZO o W.heap.size (W.alloc o) := heap_alloc_new W _
theorem ZO.dr {o : Obj} {Z : Nat} {W : World} (g : ZO o Z W) : ZO o Z W.drew := g
theorem ZO.step {o : Obj} {Z : Nat} {W W' : World} (g : ZO o Z W) (hb : Below W.heap.size W W') : ZO o Z W' := by
 unfold ZO at g ⊢
 rw [hb.block _ (lt_blk g)]
 exact g
theorem ZO.via {o : Obj} {Z : Nat} {W W' : World} (hb : Below W.heap.size W W') (g : ZO o Z W) : ZO o Z W' := g.step hb
def RtMid (w wr : World) (K : Nat → Prop) (h1 x1 : Sl) (f1 : Int) (h2 x2 : Sl) (f2 : Int) (r : Int × PA) (v e : Value) (wx : World) : Prop :=
 ∃ (V : Nat) (h x : Sl) (fo : Int), v = .pointer (some ⟨V, 0, none⟩) ∧ e = .int .i64 r.1 ∧ wr.heap.size ≤ V ∧ wx.heap[V]? = some (plO h x fo) ∧ PvIf K r h x fo wx ∧ RtS w wr h1 x1 f1 h2 x2 f2 wx
theorem rtMid_new {w wr W5 w5 : World} {H K : Nat → Prop} {h1 x1 h2 x2 : Sl} {f1 f2 : Int} {r : Int × PA} {h x : Sl} {fo : Int} (hK : ∀ b, K b → H b ∨ (w.heap.size ≤ b ∧ b < wr.heap.size)) (hp : PvIf (Hole H w W5) r h x fo w5) (hW5 : wr.heap.size ≤ W5.heap.size) (hst : RtS w wr h1 x1 f1 h2 x2 f2 w5) :
  RtMid w wr K h1 x1 f1 h2 x2 f2 r (.pointer (some ⟨w5.heap.size, 0, none⟩)) (.int .i64 r.1) (w5.alloc (plO h x fo)) :=
 ⟨w5.heap.size, h, x, fo, rfl, rfl, hst.bel.size, heap_alloc_new w5 _, fun h0 => (PV.sub (fun b _ e => by
  rcases hK b e with e | e
  ·exact .inl e
  ·exact .inr ⟨e.1, by omega⟩) (hp h0)).step (bel1 w5 _), hst.al _⟩
theorem rtMid_old {w wr W5 w5 : World} {H K : Nat → Prop} {h1 x1 h2 x2 : Sl} {f1 f2 : Int} {r : Int × PA} {h x : Sl} {fo : Int} {Z : Nat} (hK : ∀ b, K b → H b ∨ (w.heap.size ≤ b ∧ b < wr.heap.size)) (hp : PvIf (Hole H w W5) r h x fo w5) (hst : RtS w wr h1 x1 f1 h2 x2 f2 w5) (hz : ZO (plO nilS nilS 0) Z w5) (h5 : ZO (plO nilS nilS 0) Z W5) (hZ : wr.heap.size ≤ Z) :
  RtMid w wr K h1 x1 f1 h2 x2 f2 r (.pointer (some ⟨Z, 0, none⟩)) (.int .i64 r.1) (set3 w5 Z (sv h) (sv x) (.int .i64 fo)) := by
 have hzw := lt_blk h5
 have hwr := hst.lo
 refine ⟨Z, h, x, fo, rfl, rfl, hZ, set3_block hz _ _ _, fun h0 => PV.sub (H := fun b => K b ∨ b = Z) (fun b _ e => .inl e) (PV.lat (Lat.set3 (H := fun b => K b ∨ b = Z) (G := Z) (.inr rfl) _ _ _) (PV.sub (fun b _ e => ?_) (hp h0))), (((hst.put hZ _).put hZ _).put hZ _)⟩
 rcases e with e | e
 ·rcases hK b e with e | e
  ·exact .inl e
  ·exact .inr ⟨e.1, by omega⟩
 ·exact .inr ⟨by omega, by omega⟩
def IxMid (w wr : World) (h1 x1 : Sl) (f1 : Int) (h2 x2 : Sl) (f2 : Int) (x : Nat) (E : Int) (v e : Value) (wx : World) : Prop :=
 ∃ V : Nat, v = .pointer (some ⟨V, 0, none⟩) ∧ e = .int .i64 E ∧ wr.heap.size ≤ V ∧ wx.heap[V]? = some (itO 0 x 0 nilS) ∧ RtS w wr h1 x1 f1 h2 x2 f2 wx
theorem ixMid_new {w wr w5 : World} {h1 x1 h2 x2 : Sl} {f1 f2 : Int} {x : Nat} {E : Int} (hst : RtS w wr h1 x1 f1 h2 x2 f2 w5) :
  IxMid w wr h1 x1 f1 h2 x2 f2 x E (.pointer (some ⟨w5.heap.size, 0, none⟩)) (.int .i64 E) (w5.alloc (itO 0 x 0 nilS)) :=
 ⟨w5.heap.size, rfl, rfl, hst.bel.size, heap_alloc_new w5 _, hst.al _⟩
theorem ixMid_old {w wr w5 : World} {h1 x1 h2 x2 : Sl} {f1 f2 : Int} {x : Nat} {E : Int} {Z : Nat} (hst : RtS w wr h1 x1 f1 h2 x2 f2 w5) (hz : ZO (itO 0 0 0 nilS) Z w5) (hZ : wr.heap.size ≤ Z) :
  IxMid w wr h1 x1 f1 h2 x2 f2 x E (.pointer (some ⟨Z, 0, none⟩)) (.int .i64 E) (set4 w5 Z (.int .i64 0) (.float .f64 x) (.int .i32 0) (.slice none 0 0)) :=
 ⟨Z, rfl, rfl, hZ, set4_block hz _ _ _ _, ((((hst.put hZ _).put hZ _).put hZ _).put hZ _)⟩
theorem st_zo {Z : Nat} {w5 : World} (hz : ZO (itO 0 0 0 nilS) Z w5) (x : Nat) (md : Mode) : (store ⟨Z, 1, none⟩ (.float .f64 x) md).run Tryz.prog (w5.setCell ⟨Z, 0, none⟩ (.int .i64 0)) = .ok () ((w5.setCell ⟨Z, 0, none⟩ (.int .i64 0)).setCell ⟨Z, 1, none⟩ (.float .f64 x)) := by
 have h0 := heap_setCell_same w5 Z 0 _ _ (.int .i64 0) hz
 rw [show (#[.int .i64 0, .float .f64 0, .int .i32 0, .slice nilS.1 nilS.2.1 nilS.2.2] : Array Value).setIfInBounds 0 (.int .i64 0) = #[.int .i64 0, .float .f64 0, .int .i32 0, .slice nilS.1 nilS.2.1 nilS.2.2] by simp] at h0
 obtain ⟨⟨_, v1, _, _⟩, vz⟩ := block4 h0
 exact store_float v1 (vz 1) .f64 x md
structure RtI (K : Nat → Prop) (w U : World) (G : Nat) (h1 x1 : Sl) (f1 : Int) (h2 x2 : Sl) (f2 : Int) (s : Sl) (fo : Int) (l : List RI) (v : Value) (W : World) : Prop where
 own : IOwn K W U.heap.size v l
 out : W.heap[G]? = some (.cells #[sv s, v, .int .i64 fo] 25)
 p3 : P3 w W h1 x1 f1 h2 x2 f2
 lat : Lat (fun b => b = G) U W
 big : w.heap.size + 3 ≤ G
 old : G < U.heap.size
theorem RtI.step {K : Nat → Prop} {w U W W' : World} {G : Nat} {h1 x1 h2 x2 : Sl} {f1 f2 : Int} {s : Sl} {fo : Int} {l : List RI} {v : Value} (g : RtI K w U G h1 x1 f1 h2 x2 f2 s fo l v W) (hb : Below W.heap.size W W') : RtI K w U G h1 x1 f1 h2 x2 f2 s fo l v W' :=
 ⟨g.own.below hb, by rw [hb.block _ (lt_blk g.out)]; exact g.out, g.p3.step hb, g.lat.trans (Lat.below hb), g.big, g.old⟩
theorem RtI.sz {K : Nat → Prop} {w U W : World} {G : Nat} {h1 x1 h2 x2 : Sl} {f1 f2 : Int} {s : Sl} {fo : Int} {l : List RI} {v : Value} (g : RtI K w U G h1 x1 f1 h2 x2 f2 s fo l v W) : U.heap.size ≤ W.heap.size := g.lat.size
theorem RtI.push {K : Nat → Prop} {w U W w' : World} {G : Nat} {h1 x1 h2 x2 : Sl} {f1 f2 : Int} {s : Sl} {fo : Int} {l : List RI} {v v' : Value} {A : RI} (g : RtI K w U G h1 x1 f1 h2 x2 f2 s fo l v W) (hKG : K G) (hK : ∀ b, K b → b < U.heap.size) (hown : IOwn K w' U.heap.size v' (l ++ [A])) (hb : Below U.heap.size W w') :
  RtI K w U G h1 x1 f1 h2 x2 f2 s fo (l ++ [A]) v' (w'.setCell ⟨G, 1, none⟩ v') := by
 have hbig := g.big
 have hold := g.old
 have e2 : w'.heap[G]? = some (.cells #[sv s, v, .int .i64 fo] 25) := by rw [hb.block _ (by omega)]; exact g.out
 have l1 : Lat (fun b => b = G) U w' := ⟨Nat.le_trans g.lat.size hb.size, fun b hl hn => by rw [hb.block b hl, g.lat.block b hl hn]⟩
 refine ⟨hown.lat (Lat.set (a := ⟨G, 1, none⟩) hKG v') (fun b e h2 => by
  have := (hown.own_lt e).1
  have := hK b h2
  omega), ?_, (g.p3.more (hb.mono (by omega))).more ((Below.refl _ _).setCell (by show _ ≤ G; omega) _), l1.setU (.inl rfl) _, hbig, hold⟩
 have h1 := heap_setCell_same _ G 1 _ _ v' e2
 rw [show (#[sv s, v, .int .i64 fo] : Array Value).setIfInBounds 1 v' = #[sv s, v', .int .i64 fo] by simp] at h1
 exact h1
theorem RtI.done {H K : Nat → Prop} {w U W : World} {G : Nat} {h1 x1 h2 x2 : Sl} {f1 f2 : Int} {s : Sl} {fo : Int} {sh : List Nat} {l : List RI} {v : Value} (g : RtI K w U G h1 x1 f1 h2 x2 f2 s fo l v W) (hKG : K G) (hKr : K (w.heap.size + 2)) (hKH : ∀ b, H b → K b) (hK : ∀ b, K b → b < U.heap.size) (hs : RdH K U (sv s) (shInts sh)) (a0 a1 a2 : Value) :
  ∃ x : Sl, v = sv x ∧ PV H (set3 W (w.heap.size + 2) a0 a1 a2) (.mk (sh.map Int.ofNat) l fo) s x fo := by
 obtain ⟨x, e, hp⟩ := g.own.pv hK (Keeps.lat hs (g.lat.wide fun b e => by subst e; exact hKG)) fo
 exact ⟨x, e, PV.sub (fun b _ e => hKH b e) (PV.lat (Lat.set3 (G := w.heap.size + 2) hKr a0 a1 a2) hp)⟩
theorem ret_plain2 {fn : Func} {p u : Tmp} (h : fn.results = #[.cell p 25, .tmp u]) (tmps : Array Value) (w : World) (G : Nat) {e : TypeId} {a0 a1 a2 : Value}
  (hp : tmps.getD p undef = .pointer (some ⟨G, 0, none⟩)) (hg : w.heap[G]? = some (.cells #[a0, a1, a2] e)) :
  (results fn tmps).run Tryz.prog w = .ok (.tuple #[.agg #[a0, a1, a2], tmps.getD u undef]) w := by
 rw [results_cell_tmp h, hp]
 have := run_loadVar_row (P := Tryz.prog) w G e 25 _ (0, 0) _ hg Tryz.underlying25 rfl plain_size
 simp [asAddr, Result.andThen, this]
def AtR (k : Int) (n : Nat) (c : Int) (w : World) (e : Ending) (w' : World) : Prop := ∃ y : Sl, e = .returned (itV k n c y) ∧ Below w.heap.size w w'
theorem atR_of {H : Nat → Prop} {w W w' : World} {k : Int} {n : Nat} {c : Int} {e : Ending} (g : ItR H w W (.mk k n c []) e w') : AtR k n c W e w' := by
 obtain ⟨k', n', c', y, rfl, hiv, hb⟩ := g
 obtain ⟨rfl, rfl, rfl, _, _⟩ := hiv.open_
 exact ⟨y, rfl, hb⟩
set_option maxRecDepth 100000 in
set_option maxHeartbeats 4000000 in
theorem rtwo_unknown (H : Nat → Prop) (f : Int) (h1 x1 h2 x2 : Sl) (f1 f2 : Int) (r : Int × PA) (w : World) (hk : knownB f = false) (hr : r.1 = 1) :
  Calls Tryz.prog 11 #[.int .i64 f, plV h1 x1 f1, plV h2 x2 f2] w (RtU H w r) := by
 have HKN := Lib.hid (fun W => rknown_any f W)
 rw [hk] at HKN
 have HS0 := Lib.hid (P3.new w h1 x1 f1 h2 x2 f2)
 have HFL := Lib.hid hr
 clear hk hr
 go_enter Tryz.func11, Tryz.ntmps11
 go_wp2_with fail
 refine (HKN.out _).mono ?_
 rintro e w1 ⟨rfl, hw1⟩
 rw [hw1] at HS0
 clear hw1
 obtain ⟨⟨y0, y1, y2⟩, yz⟩ := block3 HS0.out.res
 go_wp2
 refine bodyPost_ret (v := .tuple #[plV nilS nilS 0, .int .i64 1]) ?_ rfl (rtU_err HFL.out (by decide) (below_set3 HS0.out.p2.bel (Nat.le_add_right _ 2) _ _ _))
 exact ret_plain2 (fn := Tryz.f11) (p := 6) (u := 7) rfl _ _ (w.heap.size + 2) (by rfl) (set3_block HS0.out.res _ _ _)
set_option maxRecDepth 100000 in
set_option maxHeartbeats 4000000 in
theorem rtwo_frame {H H1 H2 : Nat → Prop} (f : Int) {a b : PA} {h1 x1 h2 x2 : Sl} {f1 f2 : Int} (r : Int × PA) (w : World) (hk : knownB f = true) (ga : PV H1 w (rawP a) h1 x1 f1) (gb : PV H2 w (rawP b) h2 x2 f2) (sa : a.shape.length ≤ 1048576) (sb : b.shape.length ≤ 1048576) (hr : r.1 = (frameE a b).1) (hfr : (frameE a b).1 ≠ 0) :
  Calls Tryz.prog 11 #[.int .i64 f, plV h1 x1 f1, plV h2 x2 f2] w (RtU H w r) := by
 have HKN := Lib.hid (fun W => rknown_any f W)
 rw [hk] at HKN
 have HS0 := Lib.hid (P3.new w h1 x1 f1 h2 x2 f2)
 have HFR := Lib.hid (fun W (hs : P3 w W h1 x1 f1 h2 x2 f2) => rframe_any (a := a) (b := b) f1 f2 W (rd_nat (Keeps.lat (pv_heads ga).1 (Lat.below hs.p2.bel)).now) (rd_nat (Keeps.lat (pv_heads gb).1 (Lat.below hs.p2.bel)).now) (pv_heads ga).2.2 (pv_heads gb).2.2 sa sb)
 unfold FrR at HFR
 have HFL := Lib.hid hr
 have HNE := Lib.hid hfr
 have ne : ((frameE a b).1 != 0) = true := by simpa using hfr
 generalize (frameE a b).1 = E at *
 clear ga gb hk sa sb hr hfr
 go_enter Tryz.func11, Tryz.ntmps11
 go_wp2_with fail
 refine (HKN.out _).mono ?_
 rintro e w1 ⟨rfl, hw1⟩
 rw [hw1] at HS0
 clear hw1
 obtain ⟨p0, p1, p2⟩ := at3_c HS0.out.p2.one
 obtain ⟨q0, q1, q2⟩ := at3_c HS0.out.p2.two
 go_wp2_with fail
 refine (HFR.out _ HS0.out).mono ?_
 clear p0 p1 p2 q0 q1 q2
 rintro e w2 ⟨⟨h0, _⟩ | ⟨_, rfl⟩, hb2⟩
 ·exact absurd h0 HNE.out
 ·have HS2 := Lib.hid (HS0.out.step hb2)
  clear hb2 HS0 HFR
  obtain ⟨⟨y0, y1, y2⟩, yz⟩ := block3 HS2.out.res
  go_wp2
  refine bodyPost_ret (v := .tuple #[plV nilS nilS 0, .int .i64 E]) ?_ rfl (rtU_err HFL.out HNE.out (below_set3 HS2.out.p2.bel (Nat.le_add_right _ 2) _ _ _))
  exact ret_plain2 (fn := Tryz.f11) (p := 6) (u := 7) rfl _ _ (w.heap.size + 2) (by rfl) (set3_block HS2.out.res _ _ _)
set_option maxRecDepth 100000 in
set_option maxHeartbeats 4000000 in
theorem rtwo_dom {H H1 H2 : Nat → Prop} (f : Int) {a b : PA} {h1 x1 h2 x2 : Sl} {f1 f2 : Int} (r : Int × PA) (w : World) (n : Nat) (hk : knownB f = true) (ga : PV H1 w (rawP a) h1 x1 f1) (gb : PV H2 w (rawP b) h2 x2 f2) (sa : a.shape.length ≤ 1048576) (sb : b.shape.length ≤ 1048576) (hfr : (frameE a b).1 = 0) (hL : lenP a.len b.len = some n) (hff : (f1 = 0 ∧ f2 = 1) ∨ (f1 = 1 ∧ f2 = 0) ∨ (f1 = 1 ∧ f2 = 1)) (h13 : f ≠ 13) (h16 : f ≠ 16) (hr : r.1 = 24) :
  Calls Tryz.prog 11 #[.int .i64 f, plV h1 x1 f1, plV h2 x2 f2] w (RtU H w r) := by
 have HKN := Lib.hid (fun W => rknown_any f W)
 rw [hk] at HKN
 have HS0 := Lib.hid (P3.new w h1 x1 f1 h2 x2 f2)
 have HFR := Lib.hid (fun W (hs : P3 w W h1 x1 f1 h2 x2 f2) => rframe_any (a := a) (b := b) f1 f2 W (rd_nat (Keeps.lat (pv_heads ga).1 (Lat.below hs.p2.bel)).now) (rd_nat (Keeps.lat (pv_heads gb).1 (Lat.below hs.p2.bel)).now) (pv_heads ga).2.2 (pv_heads gb).2.2 sa sb)
 unfold FrR at HFR
 have HLN : Hid (∀ W, Calls Tryz.prog 28 #[.int .i64 (x1.2.1 : Nat), .int .i64 (x2.2.1 : Nat)] W fun e w' => e = .returned (.int .i64 (n : Nat)) ∧ W = w') := fun W => by
  have h := rlen_any a.len b.len n hL W
  rwa [← (pv_heads ga).2.2, ← (pv_heads gb).2.2] at h
 have HFL := Lib.hid hr
 have e13 : (f != 13) = true := by simpa using h13
 have e16 : (f != 16) = true := by simpa using h16
 clear ga gb hk sa sb hr hL h13 h16
 go_enter Tryz.func11, Tryz.ntmps11
 go_wp2_with fail
 refine (HKN.out _).mono ?_
 rintro e w1 ⟨rfl, hw1⟩
 rw [hw1] at HS0
 clear hw1
 obtain ⟨p0, p1, p2⟩ := at3_c HS0.out.p2.one
 obtain ⟨q0, q1, q2⟩ := at3_c HS0.out.p2.two
 go_wp2_with fail
 refine (HFR.out _ HS0.out).mono ?_
 clear p0 p1 p2 q0 q1 q2
 rintro e w2 ⟨⟨_, s, rfl, hs⟩ | ⟨hne, _⟩, hb2⟩
 case inr => exact absurd hfr hne
 have HS2 := Lib.hid (HS0.out.step hb2)
 have HSS := Lib.hid hs
 clear hb2 HS0 HFR hs hfr
 obtain ⟨p0, p1, p2⟩ := at3_c HS2.out.p2.one
 obtain ⟨q0, q1, q2⟩ := at3_c HS2.out.p2.two
 go_wp2_with fail
 refine (HLN.out _).mono ?_
 rintro e w3 ⟨rfl, rfl⟩
 clear HLN HSS
 rcases hff with ⟨rfl, rfl⟩ | ⟨rfl, rfl⟩ | ⟨rfl, rfl⟩
 all_goals
  obtain ⟨⟨y0, y1, y2⟩, yz⟩ := block3 HS2.out.res
  go_wp2
  refine bodyPost_ret (v := .tuple #[plV nilS nilS 0, .int .i64 24]) ?_ rfl (rtU_err HFL.out (by decide) (below_set3 HS2.out.p2.bel (Nat.le_add_right _ 2) _ _ _))
  exact ret_plain2 (fn := Tryz.f11) (p := 6) (u := 7) rfl _ _ (w.heap.size + 2) (by rfl) (set3_block HS2.out.res _ _ _)
set_option maxRecDepth 100000 in
set_option maxHeartbeats 4000000 in
theorem rtwo_nums {H H1 H2 : Nat → Prop} (f : Int) {a b : PA} {h1 x1 h2 x2 : Sl} {f1 f2 : Int} (r : Int × PA) (w : World) (n : Nat) (hnb : n ≤ 1000000) (R : Nat → Nat × Int) (sh : List Nat) (hH : ∀ b, H b → b < w.heap.size) (hk : knownB f = true) (ga : PV H1 w (rawP a) h1 x1 f1) (gb : PV H2 w (rawP b) h2 x2 f2) (sa : a.shape.length ≤ 1048576) (sb : b.shape.length ≤ 1048576) (hfr : (frameE a b).1 = 0) (hL : lenP a.len b.len = some n) (hsa : RdH H w (sv h1) (shInts a.shape)) (hsb : RdH H w (sv h2) (shInts b.shape)) (hsh : (frameE a b).2 = sh) (hff : (f1 = 0 ∧ f2 = 0) ∨ (((f1 = 0 ∧ f2 = 1) ∨ (f1 = 1 ∧ f2 = 0) ∨ (f1 = 1 ∧ f2 = 1)) ∧ (f = 13 ∨ f = 16))) (ka kb : Int) (na nb : Nat → Nat) (ca cb : Nat → Int)
  (hAA : ∀ i, i < n → ∀ W, Below w.heap.size w W → Calls Tryz.prog 30 #[plV h1 x1 f1, .int .i64 (i : Int)] W (AtR ka (na i) (ca i) W)) (hAB : ∀ i, i < n → ∀ W, Below w.heap.size w W → Calls Tryz.prog 30 #[plV h2 x2 f2, .int .i64 (i : Int)] W (AtR kb (nb i) (cb i) W))
  (hPR : ∀ i, i < n → ∀ (W : World) (y1 y2 : Sl), Calls Tryz.prog 29 #[.int .i64 f, itV ka (na i) (ca i) y1, itV kb (nb i) (cb i) y2] W fun e w' => e = .returned (.tuple #[itV 0 (R i).1 0 nilS, .int .i64 (R i).2]) ∧ Below W.heap.size W w')
  (hok : (∀ j, j < n → (R j).2 = 0) → r.1 = 0 ∧ rawP r.2 = .mk (sh.map Int.ofNat) ((List.range n).map fun j => RI.mk 0 (R j).1 0 []) 0) (hbad : ∀ c, c < n → (R c).2 ≠ 0 → r.1 = (R c).2) :
  Calls Tryz.prog 11 #[.int .i64 f, plV h1 x1 f1, plV h2 x2 f2] w (RtU H w r) := by
 have HKN := Lib.hid (fun W => rknown_any f W)
 rw [hk] at HKN
 have HS0 := Lib.hid (P3.new w h1 x1 f1 h2 x2 f2)
 have HFR := Lib.hid (fun W (hs : P3 w W h1 x1 f1 h2 x2 f2) => rframe_any (a := a) (b := b) f1 f2 W (rd_nat (Keeps.lat (pv_heads ga).1 (Lat.below hs.p2.bel)).now) (rd_nat (Keeps.lat (pv_heads gb).1 (Lat.below hs.p2.bel)).now) (pv_heads ga).2.2 (pv_heads gb).2.2 sa sb)
 unfold FrR at HFR
 have HLN : Hid (∀ W, Calls Tryz.prog 28 #[.int .i64 (x1.2.1 : Nat), .int .i64 (x2.2.1 : Nat)] W fun e w' => e = .returned (.int .i64 (n : Nat)) ∧ W = w') := fun W => by
  have h := rlen_any a.len b.len n hL W
  rwa [← (pv_heads ga).2.2, ← (pv_heads gb).2.2] at h
 have HAA := Lib.hid hAA
 have HAB := Lib.hid hAB
 have HPR := Lib.hid hPR
 clear hAA hAB hPR
 have HOK := Lib.hid hok
 have HBAD := Lib.hid hbad
 have HSA := Lib.hid hsa
 have HSB := Lib.hid hsb
 have HH := Lib.hid hH
 have HSH := Lib.hid hsh
 clear ga gb hk sa sb hL hok hbad hsa hsb hH hsh
 go_enter Tryz.func11, Tryz.ntmps11
 go_wp2_with fail
 refine (HKN.out _).mono ?_
 rintro e w1 ⟨rfl, hw1⟩
 rw [hw1] at HS0
 clear hw1
 obtain ⟨p0, p1, p2⟩ := at3_c HS0.out.p2.one
 obtain ⟨q0, q1, q2⟩ := at3_c HS0.out.p2.two
 go_wp2_with fail
 refine (HFR.out _ HS0.out).mono ?_
 clear p0 p1 p2 q0 q1 q2
 rintro e w2 ⟨⟨_, s, rfl, hs⟩ | ⟨hne, _⟩, hb2⟩
 case inr => exact absurd hfr hne
 have HS2 := Lib.hid (HS0.out.step hb2)
 have HSS := Lib.hid hs
 clear hb2 HS0 HFR hs hfr
 obtain ⟨p0, p1, p2⟩ := at3_c HS2.out.p2.one
 obtain ⟨q0, q1, q2⟩ := at3_c HS2.out.p2.two
 go_wp2_with fail
 refine (HLN.out _).mono ?_
 rintro e w3 ⟨rfl, rfl⟩
 have HRD : Hid (RdH H w (sv s) (shInts sh)) := by
  rcases HSS.out with ⟨rfl, h⟩ | ⟨rfl, h⟩
  ·unfold Hid; rw [← HSH.out, h]; exact HSA.out
  ·unfold Hid; rw [← HSH.out, h]; exact HSB.out
 clear HSS HSA HSB HSH HLN
 go_upto_region 7 with fail
 go_cut [47] from 19 (fun v wx => v = .bool true ∧ wx = w2)
 case first =>
  rcases hff with ⟨rfl, rfl⟩ | ⟨⟨rfl, rfl⟩ | ⟨rfl, rfl⟩ | ⟨rfl, rfl⟩, _⟩
  all_goals
   go_wp2
   go_meet
   exact ⟨rfl, rfl⟩
 obtain ⟨rfl, hwc⟩ := hcut
 have hwd := hwc.symm
 subst hwd
 go_upto_region 8 with fail
 go_cut [61] from 19 (fun v wx => v = .bool false ∧ wx = w2)
 case first =>
  rcases hff with ⟨rfl, rfl⟩ | ⟨⟨rfl, rfl⟩ | ⟨rfl, rfl⟩ | ⟨rfl, rfl⟩, rfl | rfl⟩
  all_goals
   go_wp2
   go_meet
   exact ⟨rfl, rfl⟩
 obtain ⟨rfl, hwc⟩ := hcut
 have hwd := hwc.symm
 subst hwd
 clear p0 p1 p2 q0 q1 q2
 obtain ⟨wa, hwa⟩ : ∃ wa, wa = w2 := ⟨_, rfl⟩
 subst hwa
 go_wp2_with fail
 obtain ⟨U, hU⟩ : ∃ U, U = wa.alloc (plO s nilS 0) := ⟨_, rfl⟩
 have HU0 := Lib.hid hU
 obtain ⟨G, hG⟩ : ∃ G, G = wa.heap.size := ⟨_, rfl⟩
 have hbU : Below wa.heap.size wa U := by rw [hU]; exact bel1 _ _
 have hgb := HS2.out.sz
 have hsU : U.heap.size = wa.heap.size + 1 := by rw [hU]; simp
 have HI0 : Hid (RtI (fun b => H b ∨ b = w.heap.size + 2 ∨ b = G) w U G h1 x1 f1 h2 x2 f2 s 0 ((List.range 0).map fun j => RI.mk 0 (R j).1 0 []) (.slice none 0 0) U) :=
  ⟨IOwn.nil _ _ _, by rw [hU, hG]; exact heap_alloc_new wa _, HS2.out.step hbU, Lat.below (Below.refl _ _), by omega, by omega⟩
 have HKU : Hid (∀ b, (fun b => H b ∨ b = w.heap.size + 2 ∨ b = G) b → b < U.heap.size) := fun b e => by
  rcases e with e | e | e
  ·have := HH.out b e; omega
  ·omega
  ·omega
 have HRU : Hid (RdH (fun b => H b ∨ b = w.heap.size + 2 ∨ b = G) U (sv s) (shInts sh)) := Keeps.lat (Keeps.sub HRD.out fun b hb e => by
  rcases e with e | e | e
  ·exact e
  ·omega
  ·omega) (Lat.below (bel_both HS2.out.p2.bel hbU))
 have hgU : w.heap.size + 3 ≤ U.heap.size := by omega
 clear hU hbU hsU HS2 HRD hgb
 rw [← HU0.out, ← hG]
 clear hG
 go_loopw [12] (fun iv wr => ∃ (c : Nat) (v : Value), c ≤ n ∧ iv = .int .i64 (c : Int) ∧ (∀ j, j < c → (R j).2 = 0) ∧ RtI (fun b => H b ∨ b = w.heap.size + 2 ∨ b = G) w U G h1 x1 f1 h2 x2 f2 s 0 ((List.range c).map fun j => RI.mk 0 (R j).1 0 []) v wr) (fun iv _ => n - (intOf iv).toNat)
 case atStart => exact ⟨0, _, Nat.zero_le _, rfl, fun j hj => absurd hj (Nat.not_lt_zero _), HI0.out⟩
 case round =>
  obtain ⟨c, v, hc, rfl, hall, hti⟩ := hrel
  have HTI := Lib.hid hti
  have HALL := Lib.hid hall
  clear hti hall HI0 HU0
  obtain ⟨vA, vn, vc, hvn⟩ : ∃ A n c, v = .slice A n c := by obtain ⟨a, c, e⟩ := HTI.out.own.len; exact ⟨a, _, c, e⟩
  subst hvn
  by_cases hlt : c < n
  ·have hlt2 : (c : Int) < (n : Int) := by omega
   have HST : Hid (RtS w wr h1 x1 f1 h2 x2 f2 wr) := ⟨HTI.out.p3, Below.refl _ _, by have := HTI.out.sz; omega⟩
   have HA := Lib.hid (fun W (hs : RtS w wr h1 x1 f1 h2 x2 f2 W) => HAA.out c hlt W hs.p3.p2.bel)
   have HB := Lib.hid (fun W (hs : RtS w wr h1 x1 f1 h2 x2 f2 W) => HAB.out c hlt W hs.p3.p2.bel)
   have HTW := Lib.hid (HPR.out c hlt)
   unfold AtR at HA HB
   generalize na c = n1 at HA HTW
   generalize nb c = n2 at HB HTW
   generalize ca c = c1 at HA HTW
   generalize cb c = c2 at HB HTW
   have HRC : Hid (∃ rc, rc = R c) := ⟨_, rfl⟩
   obtain ⟨rc, hrc⟩ := HRC.out
   rw [← hrc] at HTW
   have HRCE := Lib.hid hrc
   clear hrc HRC
   go_upto_region 14 with fail
   go_cut [13, 14] from 65 to 90 (fun v e wx => IxMid w wr h1 x1 f1 h2 x2 f2 rc.1 rc.2 v e wx)
   case first =>
    have hs0 := HST.out.dr
    have hs00 := HST.out
    go_region_held3 (fun W => ((W.cell? ⟨w.heap.size, 0, none⟩ = some (.slice h1.1 h1.2.1 h1.2.2) ∧ W.cell? ⟨w.heap.size, 1, none⟩ = some (.slice x1.1 x1.2.1 x1.2.2) ∧ W.cell? ⟨w.heap.size, 2, none⟩ = some (.int .i64 f1)) ∧ (W.cell? ⟨w.heap.size + 1, 0, none⟩ = some (.slice h2.1 h2.2.1 h2.2.2) ∧ W.cell? ⟨w.heap.size + 1, 1, none⟩ = some (.slice x2.1 x2.2.1 x2.2.2) ∧ W.cell? ⟨w.heap.size + 1, 2, none⟩ = some (.int .i64 f2))) ∧ RtS w wr h1 x1 f1 h2 x2 f2 W)
     (first | (with_reducible assumption) | (with_reducible (refine rts_s ?_); repeat (first | (with_reducible assumption) | (with_reducible refine RtS.dr ?_) | (with_reducible refine RtS.put ?_ (by first | assumption | omega | (simp; omega)) _) | (with_reducible refine RtS.al ?_ _))))
     (first
      | (go_at_call 30; (with_reducible refine (HA.out _ ?_).mono ?_); exact RtS.self (by repeat (first | (with_reducible assumption) | (with_reducible refine RtS.dr ?_) | (with_reducible refine RtS.al ?_ _))); rintro e w1 ⟨y1, rfl, hb1⟩; have hst1 : RtS w wr h1 x1 f1 h2 x2 f2 w1 := RtS.step (by repeat (first | (with_reducible assumption) | (with_reducible refine RtS.dr ?_) | (with_reducible refine RtS.al ?_ _))) hb1; obtain ⟨hc1, hfz1⟩ := bcell2 hb1; have hz1 := hb1.size; have hs1z := hst1.bel.size; (first | (have hsq1 : wr.heap.size < w1.heap.size := Nat.lt_of_lt_of_le (lt_al _ _) hz1) | (have hsq1 : wr.heap.size < w1.heap.size := Nat.lt_of_lt_of_le (lt_dr _ _) hz1) | skip); have HB1 := Lib.hid hb1; clear hb1)
      | (go_at_call 30; (with_reducible refine (HB.out _ ?_).mono ?_); exact RtS.self (by repeat (first | (with_reducible assumption) | (with_reducible refine RtS.dr ?_) | (with_reducible refine RtS.al ?_ _))); rintro e w2 ⟨y2, rfl, hb2⟩; have hst2 : RtS w wr h1 x1 f1 h2 x2 f2 w2 := RtS.step (by repeat (first | (with_reducible assumption) | (with_reducible refine RtS.dr ?_) | (with_reducible refine RtS.al ?_ _))) hb2; obtain ⟨hc2, hfz2⟩ := bcell2 hb2; have hz2 := hb2.size; have hs2z := hst2.bel.size; (first | (have hsq2 : w1.heap.size < w2.heap.size := Nat.lt_of_lt_of_le (lt_al _ _) hz2) | (have hsq2 : w1.heap.size < w2.heap.size := Nat.lt_of_lt_of_le (lt_dr _ _) hz2) | (have hsq2 : w1.heap.size ≤ w2.heap.size := hz2) | skip); (first | (have hsr2 : wr.heap.size < w2.heap.size := Nat.lt_of_lt_of_le hsq1 (Nat.le_of_lt hsq2)) | (have hsr2 : wr.heap.size < w2.heap.size := Nat.lt_of_lt_of_le hsq1 hsq2) | skip); have HB2 := Lib.hid hb2; clear hb2)
      | (go_at_call 29; (with_reducible refine (HTW.out _ _ _).mono ?_); rintro e w5 ⟨rfl, hb5⟩; have hst5 : RtS w wr h1 x1 f1 h2 x2 f2 w5 := RtS.step (by repeat (first | (with_reducible assumption) | (with_reducible refine RtS.dr ?_) | (with_reducible refine RtS.al ?_ _))) hb5; obtain ⟨hc5, hfz5⟩ := bcell2 hb5; have hz5 := hb5.size; have hs5z := hst5.bel.size; (first | (have hsq5 : w2.heap.size < w5.heap.size := Nat.lt_of_lt_of_le (lt_al _ _) hz5) | (have hsq5 : w2.heap.size < w5.heap.size := Nat.lt_of_lt_of_le (lt_dr _ _) hz5) | (have hsq5 : w2.heap.size ≤ w5.heap.size := hz5) | skip); (first | (have hsr5 : wr.heap.size < w5.heap.size := Nat.lt_of_lt_of_le hsr2 hsq5) | skip); (first | (have hsr6 : w1.heap.size < w5.heap.size := Nat.lt_of_lt_of_le hsq2 hsq5) | skip); have HB5 := Lib.hid hb5; (first | (have hzz : ZO (itO 0 0 0 nilS) wr.heap.size w5 := ZO.via HB5.out (ZO.via HB2.out (ZO.via HB1.out (ZO.new _ wr))); have hstf := st_zo hzz rc.1) | (have hzz : ZO (itO 0 0 0 nilS) wr.heap.size w5 := ZO.via HB5.out (ZO.via HB2.out (ZO.via HB1.out (ZO.dr (ZO.new _ wr)))); have hstf := st_zo hzz rc.1) | (have hzz : ZO (itO 0 0 0 nilS) w1.heap.size w5 := ZO.via HB5.out (ZO.via HB2.out (ZO.new _ w1)); have hstf := st_zo hzz rc.1) | (have hzz : ZO (itO 0 0 0 nilS) w1.heap.size w5 := ZO.via HB5.out (ZO.via HB2.out (ZO.dr (ZO.new _ w1))); have hstf := st_zo hzz rc.1) | (have hzz : ZO (itO 0 0 0 nilS) w2.heap.size w5 := ZO.via HB5.out (ZO.new _ w2); have hstf := st_zo hzz rc.1) | (have hzz : ZO (itO 0 0 0 nilS) w2.heap.size w5 := ZO.via HB5.out (ZO.dr (ZO.new _ w2)); have hstf := st_zo hzz rc.1) | (have hstf := fun md => st_item w5 0 0 rc.1 0 (.slice none 0 0) 53 md))))
    all_goals
     go_wp2
     go_meet
     first
      | (with_reducible exact ixMid_new hst5)
      | (with_reducible refine ixMid_old hst5 (ZO.step ?_ HB5.out) ?_; all_goals (first | (with_reducible exact Nat.le_refl _) | exact hst1.bel.size | exact hst2.bel.size | (repeat (first | (with_reducible exact ZO.new _ _) | (with_reducible refine ZO.dr ?_) | (with_reducible refine ZO.step ?_ HB2.out) | (with_reducible refine ZO.step ?_ HB1.out)))))
   obtain ⟨V, rfl, rfl, hVz, hVb, hst⟩ := hcut
   have HTI2 := Lib.hid (HTI.out.step hst.bel)
   have HVB := Lib.hid hVb
   obtain ⟨wb, hwb⟩ : ∃ wb, wb = wc := ⟨_, rfl⟩
   subst hwb
   clear hst hVb HAA HAB HPR HA HB HTW HST
   by_cases h0 : rc.2 = 0
   ·have ne : (rc.2 != 0) = false := by simpa using h0
    have HZ : Hid ((R c).2 = 0) := by unfold Hid; rw [← HRCE.out]; exact h0
    have HAL : Hid (∀ j, j < c + 1 → (R j).2 = 0) := fun j hj => by
     by_cases e : j = c
     ·subst e; exact HZ.out
     ·exact HALL.out j (by omega)
    have HTK : Hid (((List.range (c + 1)).map fun j => RI.mk 0 (R j).1 0 []) = ((List.range c).map fun j => RI.mk 0 (R j).1 0 []) ++ [RI.mk 0 (R c).1 0 []]) := by unfold Hid; rw [List.range_succ, List.map_append]; rfl
    have HLB : Hid (((List.range c).map fun j => RI.mk 0 (R j).1 0 []).length ≤ 1048576) := by unfold Hid; simp; omega
    rw [← HRCE.out] at HTK
    generalize ((List.range c).map fun j => RI.mk 0 (R j).1 0 []) = lc at HTI2 HTK HLB
    obtain ⟨⟨e0, e1, e2⟩, ez⟩ := block3 HTI2.out.out
    obtain ⟨⟨d0, d1, d2, d3⟩, dz⟩ := block4 HVB.out
    have HGG : Hid (wb.heap.size = wb.heap.size) := rfl
    have HSZ : Hid (U.heap.size ≤ wb.heap.size) := HTI2.out.sz
    have HAV : Hid (IV (fun b => (fun b => H b ∨ b = w.heap.size + 2 ∨ b = G) b ∨ (Value.slice vA vn vc).ownBlock = some b) wb (.mk 0 rc.1 0 []) 0 rc.1 0 nilS) := iv_none _ _ _ _ _ _ _
    have g1 := fun o => cell_box1 e1 o
    clear h0
    go_wp2_with (at_builtin; refine wpList_pushI' rfl (.tmp 86) (.tmp 88) rfl (fun b => H b ∨ b = w.heap.size + 2 ∨ b = G) U.heap.size (.slice vA vn vc) lc rfl HTI2.out.own ⟨0, rc.1, 0, nilS⟩ (.mk 0 rc.1 0 []) HAV.out wb.heap.size HGG.out rfl HLB.out HSZ.out ?_; intro v' w' hown' hbw hlat hat2; (obtain ⟨vA', vn', vc', hvn'⟩ : ∃ A n c, v' = .slice A n c := by (obtain ⟨a, c, e⟩ := hown'.len; exact ⟨a, _, c, e⟩)); subst hvn'; have HBW := Lib.hid (hbw _ (Below.refl _ _)); have HP := Lib.hid (HTI2.out.push (.inr (.inr rfl)) HKU.out hown' HBW.out); (obtain ⟨⟨q0, q1, q2⟩, qz⟩ := block3 (show w'.heap[G]? = _ from (HBW.out.block _ HTI2.out.old).trans HTI2.out.out)); clear hown' hbw hlat hat2)
    go_roundw
    case rel => exact ⟨c + 1, _, by omega, by go_num, HAL.out, by rw [HTK.out]; exact HP.out⟩
    case measure => simp [intOf]; omega
   ·have ne : (rc.2 != 0) = true := by simpa using h0
    have HE : Hid (r.1 = rc.2) := by
     unfold Hid
     rw [HRCE.out]
     exact HBAD.out c hlt (by rw [← HRCE.out]; exact h0)
    have HN := Lib.hid h0
    have HS9 := Lib.hid HTI2.out.p3
    clear h0
    obtain ⟨⟨y0, y1, y2⟩, yz⟩ := block3 HS9.out.res
    go_wp2
    refine bodyPost_ret (v := .tuple #[plV nilS nilS 0, .int .i64 rc.2]) ?_ rfl (rtU_err HE.out HN.out (below_set3 HS9.out.p2.bel (Nat.le_add_right _ 2) _ _ _))
    exact ret_plain2 (fn := Tryz.f11) (p := 6) (u := 7) rfl _ _ (w.heap.size + 2) (by rfl) (set3_block HS9.out.res _ _ _)
  ·obtain rfl : c = n := by omega
   have hge : ¬ (c : Int) < (c : Int) := by omega
   obtain ⟨hr1, hr2⟩ := HOK.out HALL.out
   have HR1 := Lib.hid hr1
   obtain ⟨x', hx', hpv⟩ := HTI.out.done (H := H) (.inr (.inr rfl)) (.inr (.inl rfl)) (fun b e => .inl e) HKU.out HRU.out (sv s) (.slice vA vn vc) (.int .i64 0)
   obtain ⟨xA, xn, xc⟩ := x'
   have h9 : Value.slice vA vn vc = .slice xA xn xc := hx'
   injection h9 with h10 h11 h12
   subst h10; subst h11; subst h12
   rw [← hr2] at hpv
   have HPV := Lib.hid hpv
   obtain ⟨⟨e0, e1, e2⟩, ez⟩ := block3 HTI.out.out
   obtain ⟨⟨z0, z1, z2⟩, zz⟩ := block3 HTI.out.p3.res
   have HRB := Lib.hid (set3_block HTI.out.p3.res (sv s) (.slice vA vn vc) (.int .i64 0))
   have HBB := Lib.hid (below_set3 HTI.out.p3.p2.bel (G := w.heap.size + 2) (by omega) (sv s) (.slice vA vn vc) (.int .i64 0))
   clear hpv hx' hr1 hr2
   go_wp2
   refine bodyPost_ret (v := .tuple #[plV s (vA, vn, vc) 0, .int .i64 0]) ?_ rfl (rtU_ok HR1.out HPV.out HBB.out)
   exact ret_plain2 (fn := Tryz.f11) (p := 6) (u := 7) rfl _ _ (w.heap.size + 2) (by rfl) HRB.out
end Go.Proofs.YtiahegjdkejjpaaGreat
