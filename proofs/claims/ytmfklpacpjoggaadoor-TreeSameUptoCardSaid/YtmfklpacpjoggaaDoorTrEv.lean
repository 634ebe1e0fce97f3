/- Walks of slices.IndexFunc, slices.ContainsFunc over nodes, of tree.every and tree.depth. Conditions: as each theorem says. -/
import Derived.Test.YtmfklpacpjoggaaDoorTrPl
namespace Go.Proofs.YtmfklpacpjoggaaDoor
open Go Go.RowKit Go.Proofs

set_option maxRecDepth 100000 in
set_option maxHeartbeats 1600000 in
theorem nIndex_walk (kids : List RTree) (A : Option Addr) (m cc : Nat) (w : World) (q : Addr) (f : FuncId) (p : RTree → Bool) (fn : Func) (hfn : Tryd.prog.funcs[f]? = some fn) (hnm : (fn.name == "runtime.NumGoroutine") = false) (co : Code) (hco : fn.body = some co)
    (hm : m = kids.length) (hm2 : m ≤ 1048576) (hk : KidsAt w A kids)
    (hf : ∀ i (hi : i < kids.length) v0 v1 v2 v3 v4 v5 v6 w1, Below w.heap.size w w1 → TN w1 kids[i] [v0, v1, v2, v3, v4, v5, v6] → Calls Tryd.prog f #[.agg #[v0, v1, v2, v3, v4, v5, v6], .pointer (some q)] w1 fun e w' => e = .returned (.bool (p kids[i])) ∧ Below w1.heap.size w1 w') :
    Calls Tryd.prog 57 #[.slice A m cc, .func (.func f) #[] #[.pointer (some q)]] w fun e w' => IdxTells (kids.any p) e ∧ Below w.heap.size w w' := by
  have HK := Lib.hid hk
  have HM := Lib.hid hm
  have HF := Lib.hid hf
  have hcf : ∀ (args : Array Value) (w : World), (callFunc f args).run Tryd.prog w = .ok (.enter f args) w := by
    intro args w
    have h1 : fn.name ≠ "runtime.NumGoroutine" := by simpa using hnm
    simp [callFunc, hfn, h1, hco]
  obtain ⟨R, hR⟩ : ∃ R, R = kids.any p := ⟨_, rfl⟩
  have HY : Hid (∀ i (hi : i < kids.length), p kids[i] = true → R = true) := fun i hi h2 => by rw [hR, List.any_eq_true]; exact ⟨_, List.getElem_mem hi, h2⟩
  have HX : Hid ((∀ i (hi : i < kids.length), p kids[i] = false) → R = false) := fun h => by
    rw [hR, List.any_eq_false]; intro x hx; obtain ⟨i, hi, rfl⟩ := List.getElem_of_mem hx; simp [h i hi]
  rw [← hR]
  clear hk hm hf hfn hnm hco hR
  go_enter Tryd.func57, Tryd.ntmps57
  go_wp2
  go_loopw [5, 8] (fun _ iv wr => ∃ k : Nat, k ≤ m ∧ iv = .int .i64 (k : Int) ∧ Below w.heap.size w wr ∧ Hid (∀ i (hi : i < kids.length), i < k → p kids[i] = false)) (fun _ iv _ => m - (intOf iv).toNat)
  case atStart => exact ⟨0, Nat.zero_le _, rfl, Below.refl _ _, fun i _ h => absurd h (by omega)⟩
  case round =>
    obtain ⟨k, hk, rfl, hbl, hall⟩ := hrel
    have HBL := Lib.hid hbl
    by_cases hlt : k < m
    · have hik : k < kids.length := by have := HM.out; omega
      obtain ⟨b, o, u0, u1, u2, u3, u4, u5, u6, rfl, hr, hce⟩ := HK.out k hik
      obtain ⟨c0, c1, c2, c3, c4, c5, c6⟩ := hce wr hbl
      have HFC := Lib.hid (HF.out k hik u0 u1 u2 u3 u4 u5 u6 wr hbl (TN.below hbl _ _ hr))
      have HYK := Lib.hid (HY.out k hik)
      have HAK : Hid (p kids[k] = false → ∀ i (hi : i < kids.length), i < k + 1 → p kids[i] = false) := by
        intro hp i hi h
        rcases Nat.lt_or_ge i k with h1 | h1
        · exact hall.out i hi h1
        · obtain rfl : i = k := by omega
          exact hp
      clear hr hce hbl hall
      generalize p kids[k] = pb at *
      go_wp2_with fail
      refine HFC.out.mono ?_
      rintro e w2 ⟨rfl, hb⟩
      have HB2 := Lib.hid (HBL.out.trans (hb.mono HBL.out.size))
      clear hb c0 c1 c2 c3 c4 c5 c6
      cases pb with
      | true =>
        have HT := Lib.hid (HYK.out rfl)
        go_wp2
        go_ret
        exact ⟨⟨(k : Int), rfl, by omega, by rw [HT.out]; simp⟩, HB2.out⟩
      | false =>
        have HA := Lib.hid (HAK.out rfl)
        go_wp2
        go_roundw
        case rel => exact ⟨k + 1, by omega, by go_num, HB2.out, HA.out⟩
        case measure => simp [intOf]; omega
    · have HT : Hid (R = false) := HX.out fun i hi => hall.out i hi (by have := HM.out; omega)
      clear hall hbl
      go_wp2
      go_ret
      exact ⟨⟨-1, rfl, by omega, by rw [HT.out]; simp⟩, HBL.out⟩

theorem nContains_walk (kids : List RTree) (A : Option Addr) (m cc : Nat) (w : World) (q : Addr) (f : FuncId) (p : RTree → Bool) (fn : Func) (hfn : Tryd.prog.funcs[f]? = some fn) (hnm : (fn.name == "runtime.NumGoroutine") = false) (co : Code) (hco : fn.body = some co)
    (hm : m = kids.length) (hm2 : m ≤ 1048576) (hk : KidsAt w A kids)
    (hf : ∀ i (hi : i < kids.length) v0 v1 v2 v3 v4 v5 v6 w1, Below w.heap.size w w1 → TN w1 kids[i] [v0, v1, v2, v3, v4, v5, v6] → Calls Tryd.prog f #[.agg #[v0, v1, v2, v3, v4, v5, v6], .pointer (some q)] w1 fun e w' => e = .returned (.bool (p kids[i])) ∧ Below w1.heap.size w1 w') :
    Calls Tryd.prog 40 #[.slice A m cc, .func (.func f) #[] #[.pointer (some q)]] w fun e w' => e = .returned (.bool (kids.any p)) ∧ Below w.heap.size w w' := by
  have HI := Lib.hid (nIndex_walk kids A m cc w q f p fn hfn hnm co hco hm hm2 hk hf)
  clear hk hm hm2 hf hfn hnm hco
  generalize kids.any p = R at *
  go_enter Tryd.func40, Tryd.ntmps40
  go_wp2_with fail
  refine HI.out.mono ?_
  rintro e w' ⟨⟨k, rfl, hk, hR⟩, hb⟩
  have HR := Lib.hid hR
  have HB := Lib.hid hb
  clear hR hb
  go_wp2
  go_ret
  exact ⟨by rw [← HR.out]; rfl, HB.out⟩

/-- a function of nodes tells something of trees -/
def Tells (f : FuncId) (p : RTree → Bool) (ok : RTree → Prop) : Prop :=
  ∀ t v0 v1 v2 v3 v4 v5 v6 w, ok t → TN w t [v0, v1, v2, v3, v4, v5, v6] → Calls Tryd.prog f #[.agg #[v0, v1, v2, v3, v4, v5, v6]] w fun e w' => e = .returned (.bool (p t)) ∧ Below w.heap.size w w'

set_option maxRecDepth 100000 in
theorem everyC_walk (v0 v1 v2 v3 v4 v5 v6 : Value) (w : World) (q : Addr) (f : FuncId) (b : Bool) (fn : Func) (hfn : Tryd.prog.funcs[f]? = some fn) (hnm : (fn.name == "runtime.NumGoroutine") = false) (co : Code) (hco : fn.body = some co)
    (hq : w.cell? q = some (.func (.func f) #[] #[]))
    (hf : ∀ w1, Below w.heap.size w w1 → Calls Tryd.prog f #[.agg #[v0, v1, v2, v3, v4, v5, v6]] w1 fun e w' => e = .returned (.bool b) ∧ Below w1.heap.size w1 w') :
    Calls Tryd.prog 54 #[.agg #[v0, v1, v2, v3, v4, v5, v6], .pointer (some q)] w fun e w' => e = .returned (.bool (!b)) ∧ Below w.heap.size w w' := by
  have HF := Lib.hid hf
  have hcf : ∀ (args : Array Value) (w : World), (callFunc f args).run Tryd.prog w = .ok (.enter f args) w := by
    intro args w
    have h1 : fn.name ≠ "runtime.NumGoroutine" := by simpa using hnm
    simp [callFunc, hfn, h1, hco]
  have hb0 : Below w.heap.size w (w.alloc (.cells #[v0, v1, v2, v3, v4, v5, v6] 31)) := (Below.refl _ w).alloc (Nat.le_refl _) _
  have HB0 := Lib.hid hb0
  have hq2 : (w.alloc (.cells #[v0, v1, v2, v3, v4, v5, v6] 31)).cell? q = some (.func (.func f) #[] #[]) := by rw [hb0.cell (cell_lt hq)]; exact hq
  clear hf hfn hnm hco hb0 hq
  go_enter Tryd.func54, Tryd.ntmps54
  go_wp2_with fail
  refine (HF.out _ HB0.out).mono ?_
  rintro e w2 ⟨rfl, hb⟩
  have HB2 := Lib.hid (HB0.out.trans (hb.mono HB0.out.size))
  clear hb hq2
  go_wp2
  go_ret
  exact ⟨rfl, HB2.out⟩

theorem any_not {kids : List RTree} {p : RTree → Bool} : (!kids.any fun t => !p t) = kids.all p := by
  induction kids with
  | nil => rfl
  | cons t ts ih => rw [List.any_cons, List.all_cons, ← ih]; simp

set_option maxRecDepth 100000 in
theorem every_walk (kids : List RTree) (A : Option Addr) (m cc : Nat) (w : World) (f : FuncId) (p : RTree → Bool) (ok : RTree → Prop) (fn : Func) (hfn : Tryd.prog.funcs[f]? = some fn) (hnm : (fn.name == "runtime.NumGoroutine") = false) (co : Code) (hco : fn.body = some co)
    (hm : m = kids.length) (hm2 : m ≤ 1048576) (hk : KidsAt w A kids) (hok : ∀ i (hi : i < kids.length), ok kids[i]) (hf : Tells f p ok) :
    Calls Tryd.prog 35 #[.slice A m cc, .func (.func f) #[] #[]] w fun e w' => e = .returned (.bool (kids.all p)) ∧ Below w.heap.size w w' := by
  have hb0 : Below w.heap.size w (w.alloc (.cells #[.func (.func f) #[] #[]] 38)) := (Below.refl _ w).alloc (Nat.le_refl _) _
  have HB0 := Lib.hid hb0
  have HC := Lib.hid (nContains_walk kids A m cc (w.alloc (.cells #[.func (.func f) #[] #[]] 38)) ⟨w.heap.size, 0, none⟩ 54 (fun t => !p t) _ Tryd.func54 (by kernel_rfl) _ rfl hm hm2 (hk.below hb0)
    (fun i hi v0 v1 v2 v3 v4 v5 v6 w1 hb ht => everyC_walk v0 v1 v2 v3 v4 v5 v6 w1 _ f (p kids[i]) fn hfn hnm co hco (by rw [hb.cell (by simp), World.cell?_alloc_at _ _ _ _ rfl]; rfl)
      fun w2 hb2 => hf _ _ _ _ _ _ _ _ _ (hok i hi) (TN.below hb2 _ _ ht)))
  rw [← any_not]
  clear hb0 hm hm2 hk hok hf hfn hnm hco
  generalize (kids.any fun t => !p t) = R at *
  go_enter Tryd.func35, Tryd.ntmps35
  go_wp2_with fail
  refine HC.out.mono ?_
  rintro e w2 ⟨rfl, hb⟩
  have HB2 := Lib.hid (HB0.out.trans (hb.mono HB0.out.size))
  clear hb
  go_wp2
  go_ret
  exact ⟨rfl, HB2.out⟩
end Go.Proofs.YtmfklpacpjoggaaDoor
