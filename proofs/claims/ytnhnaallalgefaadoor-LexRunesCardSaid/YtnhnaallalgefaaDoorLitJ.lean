/- The walks of lit.digits, lit.whole and the reference's part. Conditions: as each theorem says. -/
import Derived.Test.YtnhnaallalgefaaDoorLitA
import Derived.Test.YtnhnaallalgefaaDoorLst
import Derived.Test.YtnhnaallalgefaaDoorMem
namespace Go.Proofs.YtnhnaallalgefaaDoor
open Go Go.RowKit Go.Proofs Fl

/-- what lit.digits tells of what its reading comes to -/
def DigTells (r : Option (Nat × Nat)) (at_ : Nat) (e : Ending) : Prop :=
  match r with
  | some (v, j) => e = .returned (.tuple #[.int .i64 v, .int .i64 j, .bool (decide (at_ < j))])
  | none => ∃ j : Int, e = .returned (.tuple #[.int .i64 0, .int .i64 j, .bool false])

theorem dg_end {l : List Int} {a j : Nat} (h : ¬ j < l.length) : dg a j (l.drop j) = some (a, j) := by
  rw [List.drop_of_length_le (by omega)]; rfl
theorem dg_stop {l : List Int} {a j : Nat} (h : j < l.length) (hd : dig l[j] = false) : dg a j (l.drop j) = some (a, j) := by
  rw [drop_get h]; unfold dg; rw [hd]; rfl
theorem dg_over {l : List Int} {a j : Nat} (h : j < l.length) (hd : dig l[j] = true) (ho : 9007199254740992 < 10 * a + (l[j] - 48).toNat) : dg a j (l.drop j) = none := by
  rw [drop_get h]; unfold dg; rw [hd]; simp [ho]
theorem dg_next {l : List Int} {a j : Nat} (h : j < l.length) (hd : dig l[j] = true) (ho : ¬ 9007199254740992 < 10 * a + (l[j] - 48).toNat) :
    dg a j (l.drop j) = dg (10 * a + (l[j] - 48).toNat) (j + 1) (l.drop (j + 1)) := by
  rw [drop_get h]
  conv => lhs; unfold dg
  rw [hd]; simp [ho]

set_option maxRecDepth 100000 in
set_option maxHeartbeats 800000 in
theorem digits_walk (l : List Int) (b o c n at_ : Nat) (w : World) (hn : n = l.length) (hm : n ≤ 4611686018427387904) (hat : at_ ≤ n)
    (hc : ∀ i (h : i < l.length), w.cell? ⟨b, o + i, none⟩ = some (.int .i32 l[i])) :
    Calls Tryd.prog 90 #[.slice (some ⟨b, o, none⟩) n c, .int .i64 at_] w fun e w' => DigTells (dg 0 at_ (l.drop at_)) at_ e ∧ w = w' := by
  have HC := Lib.hid hc
  generalize hr : dg 0 at_ (l.drop at_) = r
  have HR := Lib.hid hr
  have HN := Lib.hid hn
  clear hc hr hn
  go_enter Tryd.func90, Tryd.ntmps90
  go_wp2
  go_loop [1, 7] (fun p v => ∃ a j : Nat, j ≤ n ∧ at_ ≤ j ∧ p = .int .i64 j ∧ v = .int .i64 a ∧ a ≤ 9007199254740992 ∧ Hid (dg a j (l.drop j) = r)) (fun p _ => n - (intOf p).toNat)
  case atStart => exact ⟨0, at_, hat, Nat.le_refl _, rfl, rfl, by omega, HR⟩
  case round =>
    obtain ⟨a, j, hj, hja, rfl, rfl, ha, hq⟩ := hrel
    by_cases hlt : j < n
    · have hlt' : j < l.length := by rw [← HN.out]; exact hlt
      have hcell := HC.out j hlt'
      have H1 : Hid (dig l[j] = false → r = some (a, j)) := fun h => by rw [← hq.out]; exact dg_stop hlt' h
      have H2 : Hid (dig l[j] = true → 9007199254740992 < 10 * a + (l[j] - 48).toNat → r = none) := fun h h2 => by rw [← hq.out]; exact dg_over hlt' h h2
      have H3 : Hid (dig l[j] = true → ¬ 9007199254740992 < 10 * a + (l[j] - 48).toNat → dg (10 * a + (l[j] - 48).toNat) (j + 1) (l.drop (j + 1)) = r) :=
        fun h h2 => by rw [← hq.out]; exact (dg_next hlt' h h2).symm
      generalize l[j] = x at *
      clear hlt' hq
      by_cases d1 : 48 ≤ x
      · by_cases d2 : x ≤ 57
        · have hd : dig x = true := by simp [dig, d1, d2]
          by_cases ho : 9007199254740992 < 10 * (a : Int) + (x - 48)
          · have HE := Lib.hid (H2.out hd (by omega))
            clear hd H1 H2 H3
            go_wp2
            go_ret3
            exact ⟨by rw [HE.out]; exact ⟨_, rfl⟩, rfl⟩
          · have HE := Lib.hid (H3.out hd (by omega))
            clear hd H1 H2 H3
            go_wp2
            go_round
            case rel => exact ⟨10 * a + (x - 48).toNat, j + 1, by omega, by omega, by go_num, congrArg (Value.int .i64) (by omega), by omega, HE⟩
            case measure => simp [intOf]; omega
        · have HE := Lib.hid (H1.out (by simp [dig, d2]))
          clear H1 H2 H3
          go_wp2
          go_ret3
          exact ⟨by rw [HE.out]; rfl, rfl⟩
      · have HE := Lib.hid (H1.out (by simp [dig, d1]))
        clear H1 H2 H3
        go_wp2
        go_ret3
        exact ⟨by rw [HE.out]; rfl, rfl⟩
    · have HE : Hid (r = some (a, j)) := by
        show _ = _
        rw [← hq.out]; exact dg_end (by rw [← HN.out]; exact hlt)
      clear hq
      go_wp2
      go_ret3
      exact ⟨by rw [HE.out]; rfl, rfl⟩

set_option maxHeartbeats 400000 in
theorem digits_nil (a : Option Addr) (c : Nat) (at_ : Nat) (_hat : at_ ≤ 4611686018427387904) (w : World) :
    Calls Tryd.prog 90 #[.slice a 0 c, .int .i64 at_] w fun e w' => DigTells (some (0, at_)) at_ e ∧ w = w' := by
  go_enter Tryd.func90, Tryd.ntmps90
  go_wp2
  refine wp_loop_rounds 1 ?_
  rw [rounds_succ]
  go_wp2
  go_ret3
  exact ⟨by simp [DigTells], rfl⟩

theorem digits_any {w : World} {v : Value} {l : List Int} (h : Runes w v l) (hm : l.length ≤ 4611686018427387904) (at_ : Nat) (hat : at_ ≤ l.length) :
    Calls Tryd.prog 90 #[v, .int .i64 at_] w fun e w' => DigTells (dg 0 at_ (l.drop at_)) at_ e ∧ w = w' := by
  rcases h with ⟨a, c, rfl, rfl⟩ | ⟨b, o, n, c, rfl, hn, hc⟩
  · obtain rfl : at_ = 0 := by simpa using hat
    exact digits_nil a c 0 (by omega) w
  · exact digits_walk l b o c n at_ w hn (by omega) (by omega) hc

/-- what lit.whole tells of what its reading comes to -/
def WholeTells (r : Option (Int × Nat)) (e : Ending) : Prop :=
  match r with
  | some (n, j) => e = .returned (.tuple #[.int .i64 n, .int .i64 j, .bool true])
  | none => ∃ a j : Int, e = .returned (.tuple #[.int .i64 a, .int .i64 j, .bool false])

/-- the same, of digits alone -/
def digsS (l : List Int) (at_ : Nat) : Option (Nat × Nat) :=
  match dg 0 at_ (l.drop at_) with
  | none => none
  | some (v, e) => if at_ < e then some (v, e) else none

/-- digits: told, or not -/
def DigTold (r : Option (Nat × Nat)) (e : Ending) : Prop :=
  match r with
  | some (n, j) => e = .returned (.tuple #[.int .i64 n, .int .i64 j, .bool true])
  | none => ∃ a j : Int, 0 ≤ a ∧ a ≤ 9007199254740992 ∧ e = .returned (.tuple #[.int .i64 a, .int .i64 j, .bool false])

theorem digits_told {w : World} {v : Value} {l : List Int} (h : Runes w v l) (hm : l.length ≤ 4611686018427387904) (at_ : Nat) (hat : at_ ≤ l.length) :
    Calls Tryd.prog 90 #[v, .int .i64 at_] w fun e w' => DigTold (digsS l at_) e ∧ w = w' := by
  refine (digits_any h hm at_ hat).mono ?_
  rintro e w' ⟨he, rfl⟩
  refine ⟨?_, rfl⟩
  unfold digsS
  cases hd : dg 0 at_ (l.drop at_) with
  | none => rw [hd] at he; obtain ⟨j, rfl⟩ := he; exact ⟨0, j, by omega, by omega, rfl⟩
  | some p =>
    obtain ⟨v, j⟩ := p
    rw [hd] at he
    obtain rfl := he
    have := dg_le _ _ _ _ _ (by omega) hd
    simp only
    split
    · rename_i hlt; simp [DigTold, hlt]
    · rename_i hlt; exact ⟨v, j, by omega, by omega, by simp [hlt]⟩

theorem wholeS_high {l : List Int} {at_ : Nat} (h : l[at_]? = some 175) : wholeS l at_ = (digsS l (at_ + 1)).map fun x => (-(x.1 : Int), x.2) := by
  unfold wholeS digsS
  rw [if_pos h]
  cases dg 0 (at_ + 1) (l.drop (at_ + 1)) with
  | none => rfl
  | some p => obtain ⟨v, e⟩ := p; simp only; split <;> rfl
theorem wholeS_low {l : List Int} {at_ : Nat} (h : ¬ l[at_]? = some 175) : wholeS l at_ = (digsS l at_).map fun x => ((x.1 : Int), x.2) := by
  unfold wholeS digsS
  rw [if_neg h]
  cases dg 0 at_ (l.drop at_) with
  | none => rfl
  | some p => obtain ⟨v, e⟩ := p; simp only; split <;> rfl

theorem digsS_le {l : List Int} {at_ v e : Nat} (h : digsS l at_ = some (v, e)) : v ≤ 9007199254740992 := by
  unfold digsS at h
  cases hd : dg 0 at_ (l.drop at_) with
  | none => rw [hd] at h; cases h
  | some p =>
    obtain ⟨v', e'⟩ := p
    rw [hd] at h
    have := dg_le _ _ _ _ _ (by omega) hd
    simp only at h
    split at h
    · simp at h; omega
    · cases h

set_option maxHeartbeats 400000 in
/-- lit.whole where High stands -/
theorem whole_high (b o n c at_ : Nat) (w : World) (hlt : at_ < n) (hm : n ≤ 4611686018427387904) (hc : w.cell? ⟨b, o + at_, none⟩ = some (.int .i32 175)) (r : Option (Nat × Nat)) (hr : ∀ v j, r = some (v, j) → v ≤ 9007199254740992)
    (hd : Calls Tryd.prog 90 #[.slice (some ⟨b, o, none⟩) n c, .int .i64 ((at_ : Int) + 1)] w fun e w' => DigTold r e ∧ w = w') :
    Calls Tryd.prog 62 #[.slice (some ⟨b, o, none⟩) n c, .int .i64 at_] w fun e w' => WholeTells (r.map fun x => (-(x.1 : Int), x.2)) e ∧ w = w' := by
  cases r with
  | none =>
    have HD := Lib.hid hd
    clear hd hr
    go_enter Tryd.func62, Tryd.ntmps62
    go_wp2_with fail
    refine HD.out.mono ?_
    rintro e w' ⟨⟨a, j, h1, h2, rfl⟩, rfl⟩
    go_wp2
    go_ret3
    exact ⟨⟨_, _, rfl⟩, rfl⟩
  | some p =>
    obtain ⟨v, j⟩ := p
    have hv := hr v j rfl
    have HD := Lib.hid hd
    clear hd hr
    go_enter Tryd.func62, Tryd.ntmps62
    go_wp2_with fail
    refine HD.out.mono ?_
    rintro e w' ⟨rfl, rfl⟩
    go_wp2
    go_ret3
    exact ⟨rfl, rfl⟩

set_option maxHeartbeats 400000 in
/-- lit.whole where High doesn't stand -/
theorem whole_low (v : Value) (at_ : Nat) (w : World) (hlow : (∃ a c, v = .slice a 0 c ∧ at_ = 0) ∨ ∃ b o n c, v = .slice (some ⟨b, o, none⟩) n c ∧ n ≤ 4611686018427387904 ∧ (n ≤ at_ ∨ at_ < n ∧ ∃ x, w.cell? ⟨b, o + at_, none⟩ = some (.int .i32 x) ∧ x ≠ 175)) (r : Option (Nat × Nat))
    (hd : Calls Tryd.prog 90 #[v, .int .i64 at_] w fun e w' => DigTold r e ∧ w = w') :
    Calls Tryd.prog 62 #[v, .int .i64 at_] w fun e w' => WholeTells (r.map fun x => ((x.1 : Int), x.2)) e ∧ w = w' := by
  rcases hlow with ⟨a, c, rfl, rfl⟩ | ⟨b, o, n, c, rfl, hn, hge | ⟨hlt, x, hc, hx⟩⟩
  · cases r with
    | none =>
      have HD := Lib.hid hd
      clear hd
      go_enter Tryd.func62, Tryd.ntmps62
      go_wp2_with fail
      refine HD.out.mono ?_
      rintro e w' ⟨⟨a, j, h1, h2, rfl⟩, rfl⟩
      go_wp2
      go_ret3
      exact ⟨⟨_, _, rfl⟩, rfl⟩
    | some p =>
      obtain ⟨v, j⟩ := p
      have HD := Lib.hid hd
      clear hd
      go_enter Tryd.func62, Tryd.ntmps62
      go_wp2_with fail
      refine HD.out.mono ?_
      rintro e w' ⟨rfl, rfl⟩
      go_wp2
      go_ret3
      exact ⟨rfl, rfl⟩
  · cases r with
    | none =>
      have HD := Lib.hid hd
      clear hd
      go_enter Tryd.func62, Tryd.ntmps62
      go_wp2_with fail
      refine HD.out.mono ?_
      rintro e w' ⟨⟨a, j, h1, h2, rfl⟩, rfl⟩
      go_wp2
      go_ret3
      exact ⟨⟨_, _, rfl⟩, rfl⟩
    | some p =>
      obtain ⟨v, j⟩ := p
      have HD := Lib.hid hd
      clear hd
      go_enter Tryd.func62, Tryd.ntmps62
      go_wp2_with fail
      refine HD.out.mono ?_
      rintro e w' ⟨rfl, rfl⟩
      go_wp2
      go_ret3
      exact ⟨rfl, rfl⟩
  · have hx2 : (x == 175) = false := beq_eq_false_iff_ne.2 hx
    cases r with
    | none =>
      have HD := Lib.hid hd
      clear hd
      go_enter Tryd.func62, Tryd.ntmps62
      go_wp2_with fail
      refine HD.out.mono ?_
      rintro e w' ⟨⟨a, j, h1, h2, rfl⟩, rfl⟩
      go_wp2
      go_ret3
      exact ⟨⟨_, _, rfl⟩, rfl⟩
    | some p =>
      obtain ⟨v, j⟩ := p
      have HD := Lib.hid hd
      clear hd
      go_enter Tryd.func62, Tryd.ntmps62
      go_wp2_with fail
      refine HD.out.mono ?_
      rintro e w' ⟨rfl, rfl⟩
      go_wp2
      go_ret3
      exact ⟨rfl, rfl⟩

theorem whole_any {w : World} {v : Value} {l : List Int} (h : Runes w v l) (hm : l.length ≤ 4611686018427387904) (at_ : Nat) (hat : at_ ≤ l.length) :
    Calls Tryd.prog 62 #[v, .int .i64 at_] w fun e w' => WholeTells (wholeS l at_) e ∧ w = w' := by
  by_cases hc : l[at_]? = some 175
  · rw [wholeS_high hc]
    obtain ⟨hlt, hget⟩ := List.getElem?_eq_some_iff.1 hc
    have hd := digits_told h hm (at_ + 1) (by omega)
    rcases h with ⟨a, c, rfl, rfl⟩ | ⟨b, o, n, c, rfl, hn, hcs⟩
    · simp at hlt
    · have := hcs at_ hlt
      rw [hget] at this
      exact whole_high b o n c at_ w (by omega) (by omega) this _ (fun v j e => digsS_le e) (by simpa using hd)
  · rw [wholeS_low hc]
    have hd := digits_told h hm at_ hat
    refine whole_low v at_ w ?_ _ hd
    rcases h with ⟨a, c, rfl, rfl⟩ | ⟨b, o, n, c, rfl, hn, hcs⟩
    · exact .inl ⟨a, c, rfl, by simpa using hat⟩
    · refine .inr ⟨b, o, n, c, rfl, by omega, ?_⟩
      by_cases hlt : at_ < n
      · have hlt' : at_ < l.length := by omega
        refine .inr ⟨hlt, l[at_], hcs at_ hlt', ?_⟩
        intro e
        exact hc (List.getElem?_eq_some_iff.2 ⟨hlt', e⟩)
      · exact .inl (by omega)
end Go.Proofs.YtnhnaallalgefaaDoor
