/- Troubles in memory (a class at a place, under functions' names), and the contracts of errors.Is, errors.As at the three types of package trouble. Conditions: as each theorem says. -/
import Derived.Test.YtnhnaallalgefaaDoorTrA
import Derived.Test.YtnhnaallalgefaaDoorVal
namespace Go.Proofs.YtnhnaallalgefaaDoor
open Go Go.RowKit Go.Extern.Stop Go.Stop Go.Extern Go.Proofs

/-- the value v is a trouble of class c at place a that came through functions, the outermost first -/
def Chain (w : World) (c a : Int) : Value → List ByteArray → Prop
  | v, [] => ∃ b, v = .iface 60 (.pointer (some ⟨b, 0, none⟩)) ∧ w.cell? ⟨b, 0, none⟩ = some (.int .i64 c) ∧ w.cell? ⟨b, 1, none⟩ = some (.int .i64 a)
  | v, n :: ns => ∃ b v', v = .iface 61 (.pointer (some ⟨b, 0, none⟩)) ∧ w.cell? ⟨b, 0, none⟩ = some (.string n) ∧ w.cell? ⟨b, 1, none⟩ = some v' ∧ Chain w c a v' ns

theorem Chain.keep {w w' : World} {c a : Int} (hb : ∀ p v, w.cell? p = some v → w'.cell? p = some v) : ∀ {ns : List ByteArray} {v : Value}, Chain w c a v ns → Chain w' c a v ns
  | [], _, ⟨b, h1, h2, h3⟩ => ⟨b, h1, hb _ _ h2, hb _ _ h3⟩
  | _ :: _, _, ⟨b, v', h1, h2, h3, h4⟩ => ⟨b, v', h1, hb _ _ h2, hb _ _ h3, Chain.keep hb h4⟩

theorem Chain.below {w w' : World} {c a : Int} {ns : List ByteArray} {v : Value} (h : Chain w c a v ns) (hb : Below w.heap.size w w') : Chain w' c a v ns :=
  h.keep fun p v hp => by rw [hb.cell (cell_lt hp)]; exact hp

theorem ErrT.below {w w' : World} (h : ErrT w) (hb : Below w.heap.size w w') : ErrT w' := by
  unfold ErrT at h ⊢; rw [hb.cell (cell_lt h)]; exact h

theorem Chain.notNil {w : World} {c a : Int} {v : Value} {ns : List ByteArray} (h : Chain w c a v ns) : ∃ t x, v = .iface t x := by
  cases ns with
  | nil => obtain ⟨b, rfl, _⟩ := h; exact ⟨_, _, rfl⟩
  | cons n ns => obtain ⟨b, v', rfl, _⟩ := h; exact ⟨_, _, rfl⟩

/-- where errors.Is and errors.As stand: at a class alone, or at a trouble with so many steps to it -/
def Pos (w : World) (c a : Int) (v : Value) (n : Nat) : Prop :=
  (n = 0 ∧ v = .iface 52 (.int .i64 c)) ∨ ∃ l, n = l.length + 1 ∧ Chain w c a v l

theorem Chain.uniq {w : World} {c a : Int} : ∀ {l m : List ByteArray} {v : Value}, Chain w c a v l → Chain w c a v m → l = m
  | [], [], _, _, _ => rfl
  | [], _ :: _, _, ⟨_, h1, _⟩, ⟨_, _, h2, _⟩ => by rw [h1] at h2; cases h2
  | _ :: _, [], _, ⟨_, _, h2, _⟩, ⟨_, h1, _⟩ => by rw [h1] at h2; cases h2
  | _ :: _, _ :: _, _, ⟨b, x, h1, h2, h3, h4⟩, ⟨b', x', k1, k2, k3, k4⟩ => by
    rw [h1] at k1
    obtain rfl : b = b' := by simpa using k1
    rw [h2] at k2; rw [h3] at k3
    obtain rfl : x = x' := Option.some.inj k3
    obtain rfl := Value.string.inj (Option.some.inj k2)
    rw [Chain.uniq h4 k4]

noncomputable def posN (w : World) (c a : Int) (v : Value) : Nat := Classical.epsilon fun n => Pos w c a v n
theorem posN_eq {w : World} {c a : Int} {v : Value} {n : Nat} (h : Pos w c a v n) : posN w c a v = n := by
  have h' : Pos w c a v (posN w c a v) := Classical.epsilon_spec (p := fun n => Pos w c a v n) ⟨n, h⟩
  rcases h with ⟨h1, h2⟩ | ⟨l, h1, h2⟩ <;> rcases h' with ⟨k1, k2⟩ | ⟨m, k1, k2⟩
  · omega
  · obtain ⟨t, x, e⟩ := k2.notNil
    cases m with
    | nil => obtain ⟨b, e, _⟩ := k2; rw [e] at h2; cases h2
    | cons y m => obtain ⟨b, _, e, _⟩ := k2; rw [e] at h2; cases h2
  · cases l with
    | nil => obtain ⟨b, e, _⟩ := h2; rw [e] at k2; cases k2
    | cons y m => obtain ⟨b, _, e, _⟩ := h2; rw [e] at k2; cases k2
  · rw [Chain.uniq h2 k2] at h1; omega

theorem Tb.eqlCl (c o : Int) (w : World) : (binOp .eql 48 (.iface 52 (.int .i64 c)) (.iface 52 (.int .i64 o))).run Tryd.prog w = .ok (.bool (decide (c = o))) w := by
  kernel_rfl
theorem Tb.eqlTr (v y : Value) (w : World) : (binOp .eql 48 (.iface 60 v) (.iface 52 y)).run Tryd.prog w = .ok (.bool false) w :=
  run_eql_iface_types _ _ _ _ Tryd.underlying48 (by decide) w
theorem Tb.eqlCa (v y : Value) (w : World) : (binOp .eql 48 (.iface 61 v) (.iface 52 y)).run Tryd.prog w = .ok (.bool false) w :=
  run_eql_iface_types _ _ _ _ Tryd.underlying48 (by decide) w
theorem Tb.eqlNil (t : TypeId) (v : Value) (w : World) : (binOp .eql 48 (.iface t v) .nilIface).run Tryd.prog w = .ok (.bool false) w := by
  kernel_rfl

theorem unwrapTr_walk (b : Nat) (c : Int) (w : World) (h : w.cell? ⟨b, 0, none⟩ = some (.int .i64 c)) :
    Calls Tryd.prog 41 #[.pointer (some ⟨b, 0, none⟩)] w fun e w' => e = .returned (.iface 52 (.int .i64 c)) ∧ w' = w := by
  go_enter Tryd.func41, Tryd.ntmps41
  go_wp2
  go_ret
  exact ⟨rfl, rfl⟩

theorem unwrapCa_walk (b : Nat) (v : Value) (w : World) (h : w.cell? ⟨b, 1, none⟩ = some v) :
    Calls Tryd.prog 44 #[.pointer (some ⟨b, 0, none⟩)] w fun e w' => e = .returned v ∧ w' = w := by
  go_enter Tryd.func44, Tryd.ntmps44
  go_wp2
  go_ret
  exact ⟨rfl, rfl⟩

set_option maxRecDepth 100000 in
set_option maxHeartbeats 1000000 in
/-- errors.is at a class as target -/
theorem is_walk (c a o : Int) (v : Value) (n : Nat) (w : World) (h : Pos w c a v n) :
    Calls Tryd.prog 75 #[v, .iface 52 (.int .i64 o), .bool true] w fun e w' => e = .returned (.bool (decide (c = o))) ∧ w' = w := by
  have q1 := Tb.eqlCl
  have q2 := Tb.eqlTr
  have q3 := Tb.eqlCa
  have i1 := Tb.noIsCl
  have i2 := Tb.noIsTr
  have i3 := Tb.noIsCa
  have u1 := Tb.noUnwrapCl
  have u2 := Tb.hasUnwrapTr
  have u3 := Tb.hasUnwrapCa
  have u4 := Tb.noUnwrapsCl
  have m2 := Tb.methodUnwrapTr
  have m3 := Tb.methodUnwrapCa
  have hn := Tb.eqlNil
  have HP := Lib.hid h
  clear h
  go_enter Tryd.func75, Tryd.ntmps75
  go_wp2
  go_loop [0] (fun v => ∃ n, Pos w c a v n) (fun v => posN w c a v)
  case atStart => exact ⟨n, HP.out⟩
  case round =>
    obtain ⟨m, hm⟩ := hrel
    have HM := Lib.hid hm
    clear hm
    rcases HM.out with ⟨hm0, rfl⟩ | ⟨l, hl, hch⟩
    · by_cases hco : c = o
      · have q0 : ∀ w, (binOp .eql 48 (.iface 52 (.int .i64 c)) (.iface 52 (.int .i64 o))).run Tryd.prog w = .ok (.bool true) w := by intro w; rw [q1, decide_eq_true hco]
        have HE : Hid (decide (c = o) = true) := decide_eq_true hco
        clear q1 hco
        go_wp2
        go_ret
        refine ⟨?_, rfl⟩
        rw [HE.out]; rfl
      · have q0 : ∀ w, (binOp .eql 48 (.iface 52 (.int .i64 c)) (.iface 52 (.int .i64 o))).run Tryd.prog w = .ok (.bool false) w := by intro w; rw [q1, decide_eq_false hco]
        have HE : Hid (decide (c = o) = false) := decide_eq_false hco
        clear q1 hco
        go_wp2
        go_ret
        refine ⟨?_, rfl⟩
        rw [HE.out]; rfl
    · cases l with
      | nil =>
        obtain ⟨b, rfl, hc0, hc1⟩ := hch
        have HC0 := Lib.hid hc0
        clear hc0 hc1
        go_wp2_with fail
        refine (unwrapTr_walk b c _ HC0.out).mono ?_
        rintro e w' ⟨rfl, rfl⟩
        go_wp2
        go_round
        case rel => exact ⟨0, .inl ⟨rfl, rfl⟩⟩
        case measure =>
          have e1 := posN_eq HM.out
          have e2 := posN_eq (w := w') (c := c) (a := a) (v := .iface 52 (.int .i64 c)) (n := 0) (.inl ⟨rfl, rfl⟩)
          show posN w' c a (.iface 52 (.int .i64 c)) < posN w' c a (.iface 60 (.pointer (some ⟨b, 0, none⟩)))
          rw [e1, e2]; omega
      | cons y l =>
        obtain ⟨b, v', rfl, hc0, hc1, hch'⟩ := hch
        obtain ⟨t, x, rfl⟩ := hch'.notNil
        have HC1 := Lib.hid hc1
        have HP' : Hid (Pos w c a (.iface t x) (l.length + 1)) := .inr ⟨l, rfl, hch'⟩
        clear hc0 hc1 hch'
        go_wp2_with fail
        refine (unwrapCa_walk b _ _ HC1.out).mono ?_
        rintro e w' ⟨rfl, rfl⟩
        go_wp2
        go_round
        case rel => exact ⟨l.length + 1, HP'.out⟩
        case measure =>
          have e1 := posN_eq HM.out
          have e2 := posN_eq HP'.out
          show posN w' c a (.iface t x) < posN w' c a (.iface 61 (.pointer (some ⟨b, 0, none⟩)))
          rw [e1, e2]; simp at hl; omega

/-- errors.Is at a class as target -/
theorem Is_walk (c a o : Int) (v : Value) (n : Nat) (w : World) (h : Pos w c a v n) :
    Calls Tryd.prog 38 #[v, .iface 52 (.int .i64 o)] w fun e w' => e = .returned (.bool (decide (c = o))) ∧ w' = w := by
  have h8 := @run_callFunc_extern Tryd.prog 74 _ Extern.ReflectliteType.typeOf Tryd.func74 (by kernel_rfl) (by kernel_rfl) (by kernel_rfl) (by kernel_rfl)
  have h32 := @run_callFunc_extern Tryd.prog 170 _ (Extern.ReflectliteType.method fun t => do Rtype.noPackHeld "Comparable" t; pure (.bool (← typeInfo t).comparable)) Tryd.func170 (by kernel_rfl) (by kernel_rfl) (by kernel_rfl) (by kernel_rfl)
  have tT := Tb.typeOfCl
  have cT := fun w => (h32 _ w).trans (congrArg (fun r : Result Value => r.andThen fun v w' => Result.ok (Next.value v) w') (Tb.isComparableCl w))
  clear h32
  have mR := Tb.methodComparable
  simp only [Result.andThen] at cT
  have hn := Tb.eqlNil
  have HP := Lib.hid h
  have hv : ∃ t x, v = .iface t x := by
    rcases h with ⟨_, rfl⟩ | ⟨l, _, h⟩
    · exact ⟨_, _, rfl⟩
    · exact h.notNil
  obtain ⟨t, x, rfl⟩ := hv
  clear h
  go_enter Tryd.func38, Tryd.ntmps38
  go_wp2_with fail
  refine (is_walk c a o _ n _ HP.out).mono ?_
  rintro e w' ⟨rfl, rfl⟩
  go_wp2
  go_ret
  exact ⟨rfl, rfl⟩
end Go.Proofs.YtnhnaallalgefaaDoor
