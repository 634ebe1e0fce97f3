/- Walks of slices.IndexFunc and slices.ContainsFunc over runes. Conditions: as each theorem says. -/
import Derived.Test.YtmfklpacpjoggaaDoorLexA
namespace Go.Proofs.YtmfklpacpjoggaaDoor
open Go Go.RowKit Go.Proofs

theorem Runes.opn {w : World} {v : Value} {l : List Int} (h : Runes w v l) : ∃ A cc n, v = .slice A n cc ∧ n = l.length ∧
    ∀ i, i < l.length → ∃ b o, A = some ⟨b, o, none⟩ ∧ ∀ w1, Below w.heap.size w w1 → w1.cell? ⟨b, o + i, none⟩ = some (.int .i32 (l.getD i 0)) := by
  rcases h with ⟨a, c, rfl, rfl⟩ | ⟨b, o, n, c, rfl, hn, hc⟩
  · exact ⟨a, c, 0, rfl, rfl, fun i hi => by simp at hi⟩
  · refine ⟨_, c, n, rfl, hn, fun i hi => ⟨b, o, rfl, fun w1 hb => ?_⟩⟩
    have := hc i hi
    rw [hb.cell (cell_lt this), this]
    simp [List.getD, hi]

theorem any_at {l : List Int} {p : Int → Bool} {k : Nat} (hk : k < l.length) (h : p (l.getD k 0) = true) : l.any p = true := by
  rw [List.any_eq_true]; exact ⟨l[k], List.getElem_mem hk, by simpa [List.getD, hk] using h⟩
theorem any_no {l : List Int} {p : Int → Bool} (h : ∀ k, k < l.length → p (l.getD k 0) = false) : l.any p = false := by
  rw [List.any_eq_false]; intro x hx; obtain ⟨k, hk, rfl⟩ := List.getElem_of_mem hx; simpa [List.getD, hk] using h k hk

/-- what IndexFunc tells: a place where there is one, -1 where there is none -/
def IdxTells (R : Bool) (e : Ending) : Prop := ∃ k : Int, e = .returned (.int .i64 k) ∧ -1 ≤ k ∧ decide (0 ≤ k) = R

set_option maxRecDepth 100000 in
theorem index_walk (v : Value) (l : List Int) (w : World) (hr : Runes w v l) (hl : l.length ≤ 140737488351232) (f : FuncId) (p : Int → Bool) (fn : Func) (hfn : Tryd.prog.funcs[f]? = some fn) (hnm : (fn.name == "runtime.NumGoroutine") = false) (co : Code) (hco : fn.body = some co) (hf : ∀ c w, Calls Tryd.prog f #[.int .i32 c] w fun e w' => e = .returned (.bool (p c)) ∧ w = w') :
    Calls Tryd.prog 50 #[v, .func (.func f) #[] #[]] w fun e w' => IdxTells (l.any p) e ∧ w = w' := by
  obtain ⟨A, cc, n, rfl, hn, hcell⟩ := hr.opn
  have HC := Lib.hid hcell
  have HN := Lib.hid hn
  have HF := Lib.hid hf
  have hcf : ∀ (args : Array Value) (w : World), (callFunc f args).run Tryd.prog w = .ok (.enter f args) w := by
    intro args w
    have h1 : fn.name ≠ "runtime.NumGoroutine" := by simpa using hnm
    simp [callFunc, hfn, h1, hco]
  have hn2 : n ≤ 140737488351232 := by omega
  have HY : Hid (∀ k, k < l.length → p (l.getD k 0) = true → l.any p = true) := fun k h h2 => any_at h h2
  have HX : Hid ((∀ k, k < l.length → p (l.getD k 0) = false) → l.any p = false) := fun h => any_no h
  clear hcell hn hf hr hl hfn hnm hco
  go_enter Tryd.func50, Tryd.ntmps50
  go_wp2
  go_loop [5, 8] (fun _ i => ∃ k : Nat, k ≤ n ∧ i = .int .i64 (k : Int) ∧ Hid (∀ j, j < k → p (l.getD j 0) = false)) (fun _ i => n - (intOf i).toNat)
  case atStart => exact ⟨0, Nat.zero_le _, rfl, fun j h => absurd h (by omega)⟩
  case round =>
    obtain ⟨k, hk, rfl, hall⟩ := hrel
    by_cases hlt : k < n
    · have hkl : k < l.length := by have := HN.out; omega
      obtain ⟨b, o, rfl, hce⟩ := HC.out k hkl
      have hce2 := hce _ (Below.refl _ _)
      clear hce
      obtain ⟨x, hx⟩ : ∃ x, x = l.getD k 0 := ⟨_, rfl⟩
      rw [← hx] at hce2
      have HXX := Lib.hid hx
      clear hx
      go_wp2_with fail
      refine (HF.out _ _).mono ?_
      rintro e w' ⟨rfl, rfl⟩
      cases hp : p x with
      | true =>
        have HT := Lib.hid (HY.out k hkl (by rw [← HXX.out]; exact hp))
        clear hp
        go_wp2
        go_ret
        exact ⟨⟨(k : Int), rfl, by omega, by rw [HT.out]; simp⟩, rfl⟩
      | false =>
        have HA : Hid (∀ j, j < k + 1 → p (l.getD j 0) = false) := by
          intro j hj
          rcases Nat.lt_or_ge j k with h | h
          · exact hall.out j h
          · obtain rfl : j = k := by omega
            rw [← HXX.out]; exact hp
        clear hp hall
        go_wp2
        go_round
        case rel => exact ⟨k + 1, by omega, by go_num, HA⟩
        case measure => simp [intOf]; omega
    · have HT : Hid (l.any p = false) := HX.out fun j hj => hall.out j (by have := HN.out; omega)
      clear hall
      go_wp2
      go_ret
      exact ⟨⟨-1, rfl, by omega, by rw [HT.out]; simp⟩, rfl⟩

theorem contains_walk (v : Value) (l : List Int) (w : World) (hr : Runes w v l) (hl : l.length ≤ 140737488351232) (f : FuncId) (p : Int → Bool) (fn : Func) (hfn : Tryd.prog.funcs[f]? = some fn) (hnm : (fn.name == "runtime.NumGoroutine") = false) (co : Code) (hco : fn.body = some co) (hf : ∀ c w, Calls Tryd.prog f #[.int .i32 c] w fun e w' => e = .returned (.bool (p c)) ∧ w = w') :
    Calls Tryd.prog 31 #[v, .func (.func f) #[] #[]] w fun e w' => e = .returned (.bool (l.any p)) ∧ w = w' := by
  have HI := Lib.hid (index_walk v l w hr hl f p fn hfn hnm co hco hf)
  clear hr hl hf hfn hnm hco
  generalize l.any p = R at *
  go_enter Tryd.func31, Tryd.ntmps31
  go_wp2_with fail
  refine HI.out.mono ?_
  rintro e w' ⟨⟨k, rfl, hk, hR⟩, rfl⟩
  have HR := Lib.hid hR
  clear hR
  go_wp2
  go_ret
  exact ⟨by rw [← HR.out]; rfl, rfl⟩
end Go.Proofs.YtmfklpacpjoggaaDoor
