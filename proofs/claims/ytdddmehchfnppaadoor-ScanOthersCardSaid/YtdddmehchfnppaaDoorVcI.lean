/- The walks of squeeze.Into (into eight bits) and of Wholes. Conditions: as each theorem says. -/
import Derived.Test.YtdddmehchfnppaaDoorVcH
namespace Go.Proofs.YtdddmehchfnppaaDoor
open Go Go.RowKit Go.Proofs Fl

/-- a function's own blocks: its Vec in a block, and the result's block behind it, still zero -/
structure St (w W : World) (k : Int) (b : Value) (bn : Int) (s i f c x : Value) : Prop where
  box : Boxed W w.heap.size k b bn s i f c x
  res : W.heap[w.heap.size + 1]? = some (.cells zcells 35)
  bel : Below w.heap.size w W

theorem St.new (w : World) (k : Int) (b : Value) (bn : Int) (s i f c x : Value) : St w ((w.alloc (.cells #[.int .i64 k, b, .int .i64 bn, s, i, f, c, x] 35)).alloc (.cells zcells 35)) k b bn s i f c x :=
  ⟨(boxed_new w 35 k b bn s i f c x).below (bel1 _ (.cells zcells 35)), by
    have := heap_alloc_new (w.alloc (.cells #[.int .i64 k, b, .int .i64 bn, s, i, f, c, x] 35)) (.cells zcells 35)
    simpa using this, bel2 w _ _⟩
theorem St.step {w W W' : World} {k : Int} {b : Value} {bn : Int} {s i f c x : Value} (h : St w W k b bn s i f c x) (hb : Below W.heap.size W W') : St w W' k b bn s i f c x :=
  ⟨h.box.below hb, by rw [hb.block _ (boxed_of h.res).1.lt]; exact h.res, bel_both h.bel hb⟩

set_option maxRecDepth 100000 in
set_option maxHeartbeats 1000000 in
theorem intoSmall_walk (k : Int) (b : Value) (bn : Int) (s i f c x : Value) (n : Nat) (l : Nat → Int) (w : World) (h : WholesOf w (vecV k b bn s i f c x) n l)
    (hcls : ∀ w', Below w.heap.size w w' → Calls Tryd.prog 27 #[vecV k b bn s i f c x] w' fun e w2 => e = .returned (.int .i64 0) ∧ Below w'.heap.size w' w2)
    (hk2 : k ≠ 2) (hk0 : k ≠ 0) (hn : n ≤ 1000000) (hl : ∀ j, j < n → -128 ≤ l j ∧ l j ≤ 127) :
    Calls Tryd.prog 25 #[vecV k b bn s i f c x, .int .i64 2] w fun e w' => ∃ u, e = .returned (.tuple #[vecV 2 vnil 0 u vnil vnil vnil vnil, .bool true]) ∧ Own1 w' w.heap.size 94 u ((List.range n).map fun j => .int .i8 (l j)) ∧ Below w.heap.size w w' := by
  have HK := Lib.hid (fun W => kind_any k b bn s i f c x W)
  have HC := Lib.hid hcls
  have HI := Lib.hid (fun (W : World) (hb : Below w.heap.size w W) => intoSmalls_walk k b bn s i f c x n l W ⟨fun w' h' => h.len w' (bel_both hb h'), fun w' h' => h.whole w' (bel_both hb h')⟩ hn hl)
  clear h hcls hl
  have e2 : (k == 2) = false := by simpa using hk2
  have e0 : (k == 0) = false := by simpa using hk0
  go_enter Tryd.func25, Tryd.ntmps25
  go_wp2_with fail
  refine (HK.out _).mono ?_
  rintro e w1 ⟨rfl, hb1⟩
  have HS1 := Lib.hid ((St.new w k b bn s i f c x).step hb1)
  obtain ⟨h0, h1, h2, h3, h4, h5, h6, h7⟩ := HS1.out.box
  clear hb1
  go_wp2_with fail
  refine (HC.out _ HS1.out.bel).mono ?_
  rintro e w2 ⟨rfl, hb2⟩
  have HS2 := Lib.hid (HS1.out.step hb2)
  clear hb2 h0 h1 h2 h3 h4 h5 h6 h7 HS1
  obtain ⟨h0, h1, h2, h3, h4, h5, h6, h7⟩ := HS2.out.box
  go_wp2_with fail
  refine (HK.out _).mono ?_
  rintro e w3 ⟨rfl, hb3⟩
  have HS3 := Lib.hid (HS2.out.step hb3)
  clear hb3 h0 h1 h2 h3 h4 h5 h6 h7 HS2
  obtain ⟨h0, h1, h2, h3, h4, h5, h6, h7⟩ := HS3.out.box
  go_wp2_with fail
  refine (HI.out _ HS3.out.bel).mono ?_
  rintro e w4 ⟨u, rfl, ho, hb4⟩
  have HS4 := Lib.hid (HS3.out.step hb4)
  have HNE : Hid (u.ownBlock ≠ some (w.heap.size + 1)) := fun e => by
    have h1 := (World.ownsRow.lt ho _ e).1
    have h2 := (boxed_of HS3.out.res).1.lt
    omega
  have HO := Lib.hid (ho.lower HS3.out.bel.size)
  obtain ⟨a, n', c', hu⟩ : ∃ a n c, u = .slice a n c := by obtain ⟨a, c, e⟩ := ho.reads.len; exact ⟨a, _, c, e⟩
  subst hu
  clear hb4 ho h0 h1 h2 h3 h4 h5 h6 h7 HS3
  obtain ⟨⟨h0, h1, h2, h3, h4, h5, h6, h7⟩, hz⟩ := boxed_of HS4.out.res
  go_wp2
  refine bodyPost_ret (v := .tuple #[vecV 2 vnil 0 (.slice a n' c') vnil vnil vnil vnil, .bool true]) ?_ rfl ⟨.slice a n' c', rfl, own_set8 HO.out HNE.out _ _ _ _ _ _ _ _, below_set8 HS4.out.bel (Nat.le_succ _) _ _ _ _ _ _ _ _⟩
  exact ret_vec2 (fn := Tryd.f25) (p := 4) (u := 5) rfl _ _ (w.heap.size + 1) (by rfl) (set8_block HS4.out.res _ _ _ _ _ _ _ _)
end Go.Proofs.YtdddmehchfnppaaDoor
