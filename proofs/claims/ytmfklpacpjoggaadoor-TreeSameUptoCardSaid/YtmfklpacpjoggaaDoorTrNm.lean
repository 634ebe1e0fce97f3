/- Walks of tree.numbers, tree.Slash, lex.IsVerb, tree.depth. Conditions: as each theorem says. -/
import Derived.Test.YtmfklpacpjoggaaDoorTrEv
namespace Go.Proofs.YtmfklpacpjoggaaDoor
open Go Go.RowKit Go.Proofs Fl

theorem ntidy_inf (s : Bool) (w : World) :
    Calls Tryd.prog 49 #[.float .f64 (infw s)] w fun e w' => e = .returned (.tuple #[.float .f64 0, .bool false]) ∧ w = w' := by
  have h2 := fo_infinf s
  have h3 := fo_inf s false rep_top
  have h4 := fo_inf s true rep_top
  rw [W_top] at h3
  rw [W_ntop] at h4
  have h2' : (FloatKind.f64.format.order (infw s) (infw s) != some .eq) = false := by rw [h2]; rfl
  cases s with
  | true =>
    have h3' : (FloatKind.f64.format.order (infw true) 9218868437227405311 == some .gt) = false := by rw [h3]; rfl
    have h4' : (FloatKind.f64.format.order (infw true) 18442240474082181119 == some .lt) = true := by rw [h4]; rfl
    have h3'' : ¬ FloatKind.f64.format.order (infw true) 9218868437227405311 = some .gt := by rw [h3]; simp
    generalize infw true = x at *
    go_enter Tryd.func49, Tryd.ntmps49
    go_wp2
    go_ret2
    exact ⟨rfl, rfl⟩
  | false =>
    have h3' : (FloatKind.f64.format.order (infw false) 9218868437227405311 == some .gt) = true := by rw [h3]; rfl
    generalize infw false = x at *
    go_enter Tryd.func49, Tryd.ntmps49
    go_wp2
    go_ret2
    exact ⟨rfl, rfl⟩

theorem ntidy_nan {b : Nat} (h : (Ieee.double.read b).isNaN = true) (w : World) :
    Calls Tryd.prog 49 #[.float .f64 b] w fun e w' => e = .returned (.tuple #[.float .f64 0, .bool false]) ∧ w = w' := by
  have h2 := fo_nan b h
  have h2' : (FloatKind.f64.format.order b b != some .eq) = true := by rw [h2]; rfl
  have h2'' : ¬ FloatKind.f64.format.order b b = some .eq := by rw [h2]; simp
  clear h h2
  go_enter Tryd.func49, Tryd.ntmps49
  go_wp2
  go_ret2
  exact ⟨rfl, rfl⟩

/-- Tidy of any number -/
def TidyTells (b : Nat) (e : Ending) : Prop := ∃ y, e = .returned (.tuple #[.float .f64 y, .bool (isFin b)])
theorem ntidy_any (b : Nat) (hb : b < 18446744073709551616) (w : World) : Calls Tryd.prog 49 #[.float .f64 b] w fun e w' => TidyTells b e ∧ w = w' := by
  rcases classify b hb with ⟨s, Z, hz, rfl⟩ | ⟨s, rfl⟩ | h
  · exact (ntidy_num s hz w).mono fun _ _ ⟨h1, h2⟩ => ⟨⟨_, by rw [isFin_W s hz]; exact h1⟩, h2⟩
  · exact (ntidy_inf s w).mono fun _ _ ⟨h1, h2⟩ => ⟨⟨_, by rw [isFin_inf]; exact h1⟩, h2⟩
  · exact (ntidy_nan h w).mono fun _ _ ⟨h1, h2⟩ => ⟨⟨_, by rw [isFin_nan h]; exact h1⟩, h2⟩

theorem numC_walk (b : Nat) (hb : b < 18446744073709551616) (w : World) : Calls Tryd.prog 48 #[.float .f64 b] w fun e w' => e = .returned (.bool (!isFin b)) ∧ w = w' := by
  have HT := Lib.hid (ntidy_any b hb w)
  clear hb
  unfold TidyTells at HT
  generalize isFin b = R at *
  go_enter Tryd.func48, Tryd.ntmps48
  go_wp2_with fail
  refine HT.out.mono ?_
  rintro e w' ⟨⟨y, rfl⟩, rfl⟩
  go_wp2
  go_ret
  exact ⟨rfl, rfl⟩

set_option maxRecDepth 100000 in
theorem fIndex_walk (v : Value) (l : List Nat) (w : World) (hr : Reads1 w v (l.map (Value.float .f64))) (hl : l.length ≤ 1048576) (f : FuncId) (p : Nat → Bool) (fn : Func) (hfn : Tryd.prog.funcs[f]? = some fn) (hnm : (fn.name == "runtime.NumGoroutine") = false) (co : Code) (hco : fn.body = some co)
    (hf : ∀ c w, c ∈ l → Calls Tryd.prog f #[.float .f64 c] w fun e w' => e = .returned (.bool (p c)) ∧ w = w') :
    Calls Tryd.prog 61 #[v, .func (.func f) #[] #[]] w fun e w' => IdxTells (l.any p) e ∧ w = w' := by
  obtain ⟨A, cc, n, rfl, hn, hcell⟩ := hr.opn
  rw [List.length_map] at hn
  have HC : Hid (∀ i (hi : i < l.length), ∃ b o, A = some ⟨b, o, none⟩ ∧ w.cell? ⟨b, o + i, none⟩ = some (.float .f64 l[i])) := fun i hi => by
    obtain ⟨b, o, h1, h2⟩ := hcell i (by simpa using hi)
    exact ⟨b, o, h1, by rw [h2 w (Below.refl _ _)]; simp⟩
  have HN := Lib.hid hn
  have HF := Lib.hid hf
  have hcf : ∀ (args : Array Value) (w : World), (callFunc f args).run Tryd.prog w = .ok (.enter f args) w := by
    intro args w
    have h1 : fn.name ≠ "runtime.NumGoroutine" := by simpa using hnm
    simp [callFunc, hfn, h1, hco]
  have hn2 : n ≤ 1048576 := by omega
  obtain ⟨R, hR⟩ : ∃ R, R = l.any p := ⟨_, rfl⟩
  have HY : Hid (∀ i (hi : i < l.length), p l[i] = true → R = true) := fun i hi h2 => by rw [hR, List.any_eq_true]; exact ⟨_, List.getElem_mem hi, h2⟩
  have HX : Hid ((∀ i (hi : i < l.length), p l[i] = false) → R = false) := fun h => by
    rw [hR, List.any_eq_false]; intro x hx; obtain ⟨i, hi, rfl⟩ := List.getElem_of_mem hx; simp [h i hi]
  rw [← hR]
  clear hcell hn hf hr hl hfn hnm hco hR
  go_enter Tryd.func61, Tryd.ntmps61
  go_wp2
  go_loop [5, 8] (fun _ i => ∃ k : Nat, k ≤ n ∧ i = .int .i64 (k : Int) ∧ Hid (∀ i (hi : i < l.length), i < k → p l[i] = false)) (fun _ i => n - (intOf i).toNat)
  case atStart => exact ⟨0, Nat.zero_le _, rfl, fun i _ h => absurd h (by omega)⟩
  case round =>
    obtain ⟨k, hk, rfl, hall⟩ := hrel
    by_cases hlt : k < n
    · have hik : k < l.length := by have := HN.out; omega
      obtain ⟨b, o, rfl, hce⟩ := HC.out k hik
      have HFC := Lib.hid (HF.out l[k] w (List.getElem_mem hik))
      have HYK := Lib.hid (HY.out k hik)
      have HAK : Hid (p l[k] = false → ∀ i (hi : i < l.length), i < k + 1 → p l[i] = false) := by
        intro hp i hi h
        rcases Nat.lt_or_ge i k with h1 | h1
        · exact hall.out i hi h1
        · obtain rfl : i = k := by omega
          exact hp
      clear hall
      generalize p l[k] = pb at *
      generalize l[k] = x at *
      go_wp2_with fail
      refine HFC.out.mono ?_
      rintro e w2 ⟨rfl, rfl⟩
      cases pb with
      | true =>
        have HT := Lib.hid (HYK.out rfl)
        go_wp2
        go_ret
        exact ⟨⟨(k : Int), rfl, by omega, by rw [HT.out]; simp⟩, rfl⟩
      | false =>
        have HA := Lib.hid (HAK.out rfl)
        go_wp2
        go_round
        case rel => exact ⟨k + 1, by omega, by go_num, HA.out⟩
        case measure => simp [intOf]; omega
    · have HT : Hid (R = false) := HX.out fun i hi => hall.out i hi (by have := HN.out; omega)
      clear hall
      go_wp2
      go_ret
      exact ⟨⟨-1, rfl, by omega, by rw [HT.out]; simp⟩, rfl⟩

theorem fContains_walk (v : Value) (l : List Nat) (w : World) (hr : Reads1 w v (l.map (Value.float .f64))) (hl : l.length ≤ 1048576) (f : FuncId) (p : Nat → Bool) (fn : Func) (hfn : Tryd.prog.funcs[f]? = some fn) (hnm : (fn.name == "runtime.NumGoroutine") = false) (co : Code) (hco : fn.body = some co)
    (hf : ∀ c w, c ∈ l → Calls Tryd.prog f #[.float .f64 c] w fun e w' => e = .returned (.bool (p c)) ∧ w = w') :
    Calls Tryd.prog 47 #[v, .func (.func f) #[] #[]] w fun e w' => e = .returned (.bool (l.any p)) ∧ w = w' := by
  have HI := Lib.hid (fIndex_walk v l w hr hl f p fn hfn hnm co hco hf)
  obtain ⟨A, cc, n, rfl, hn, hcell⟩ := hr.opn
  clear hr hl hf hfn hnm hco hn hcell
  generalize l.any p = R at *
  go_enter Tryd.func47, Tryd.ntmps47
  go_wp2_with fail
  refine HI.out.mono ?_
  rintro e w' ⟨⟨k, rfl, hk, hR⟩, rfl⟩
  have HR := Lib.hid hR
  clear hR
  go_wp2
  go_ret
  exact ⟨by rw [← HR.out]; rfl, rfl⟩

theorem any_notN {l : List Nat} {p : Nat → Bool} : (!l.any fun t => !p t) = l.all p := by
  induction l with
  | nil => rfl
  | cons t ts ih => rw [List.any_cons, List.all_cons, ← ih]; simp

theorem numbers_walk (v : Value) (l : List Nat) (w : World) (hr : Reads1 w v (l.map (Value.float .f64))) (hl : l.length ≤ 1048576) (hx : ∀ x ∈ l, x < 18446744073709551616) :
    Calls Tryd.prog 30 #[v] w fun e w' => e = .returned (.bool (l.all isFin)) ∧ w = w' := by
  have HI := Lib.hid (fContains_walk v l w hr hl 48 (fun t => !isFin t) _ Tryd.func48 (by kernel_rfl) _ rfl fun c w hc => numC_walk c (hx c hc) w)
  obtain ⟨A, cc, n, rfl, hn, hcell⟩ := hr.opn
  rw [← any_notN]
  clear hr hl hx hn hcell
  generalize (l.any fun t => !isFin t) = R at *
  go_enter Tryd.func30, Tryd.ntmps30
  go_wp2_with fail
  refine HI.out.mono ?_
  rintro e w' ⟨rfl, rfl⟩
  go_wp2
  go_ret
  exact ⟨rfl, rfl⟩

theorem nl_walk (c : Int) (w : World) : Calls Tryd.prog 32 #[.int .i32 c] w fun e w' => e = .returned (.bool (decide (c = 10))) ∧ w = w' := by
  go_enter Tryd.func32, Tryd.ntmps32
  go_wp2
  go_ret
  exact ⟨by show Ending.returned (Value.bool _) = _; refine congrArg (fun b => Ending.returned (Value.bool b)) ?_; rw [Bool.eq_iff_iff]; simp, rfl⟩

theorem slash_walk (c : Int) (w : World) : Calls Tryd.prog 38 #[.int .i32 c] w fun e w' => e = .returned (.bool (slashB c)) ∧ w = w' := by
  have HR : Hid (slashB c = decide (c = 47 ∨ c = 92 ∨ c = 9023 ∨ c = 9024)) := rfl
  generalize slashB c = R at *
  go_enter Tryd.func38, Tryd.ntmps38
  go_wp2
  all_goals go_ret
  all_goals exact ⟨by rw [HR.out]; clear HR; first | rfl | (show Ending.returned (Value.bool _) = _; refine congrArg (fun b => Ending.returned (Value.bool b)) ?_; rw [Bool.eq_iff_iff]; simp [*]), rfl⟩

theorem in_atL (c : Int) (L : List Int) (s : ByteArray) (w : World) (h : runesOf s = L) : Calls Tryd.prog 55 #[.int .i32 c, .string s] w fun e w' => e = .returned (.bool (decide (c ∈ L))) ∧ Below w.heap.size w w' := by
  rw [← h]; exact in_walk c s w

theorem isVerbB_walk (c : Int) (w : World) : Calls Tryd.prog 37 #[.int .i32 c] w fun e w' => e = .returned (.bool (verbB c)) ∧ Below w.heap.size w w' := by
  show Calls _ _ _ _ fun e w' => e = .returned (.bool (decide (c ∈ verbsL))) ∧ Below w.heap.size w w'
  generalize hD : decide (c ∈ verbsL) = D
  go_enter Tryd.func37, Tryd.ntmps37
  go_wp2_with fail
  refine (in_atL c verbsL _ _ (by decide +kernel)).mono ?_
  rintro e w' ⟨rfl, hb⟩
  rw [hD]
  have HB := Lib.hid hb
  clear hb hD
  go_wp2
  go_ret
  exact ⟨rfl, HB.out⟩
end Go.Proofs.YtmfklpacpjoggaaDoor
