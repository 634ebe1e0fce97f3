/- The walk of the reference's part. Conditions: as each theorem says. -/
import Derived.Test.YtnhnaallalgefaaDoorLitJ
namespace Go.Proofs.YtnhnaallalgefaaDoor
open Go Go.RowKit Go.Proofs Fl

/-- what part tells of what its reading comes to -/
def PartTells (r : Option (Int × Nat)) (e : Ending) : Prop :=
  match r with
  | some (n, j) => e = .returned (.tuple #[.int .i64 n, .int .i64 j])
  | none => e = .returned (.tuple #[.int .i64 0, .int .i64 (-1)])

theorem digsS_of {l : List Int} {s a j : Nat} (h : dg 0 s (l.drop s) = some (a, j)) : digsS l s = if s < j then some (a, j) else none := by
  unfold digsS; rw [h]
theorem digsS_none {l : List Int} {s : Nat} (h : dg 0 s (l.drop s) = none) : digsS l s = none := by
  unfold digsS; rw [h]

set_option maxRecDepth 100000 in
set_option maxHeartbeats 1000000 in
theorem part_high (l : List Int) (b o c n at_ : Nat) (w : World) (hn : n = l.length) (hm : n ≤ 4611686018427387904) (hlt0 : at_ < n) (hx0 : w.cell? ⟨b, o + at_, none⟩ = some (.int .i32 175))
    (hc : ∀ i (h : i < l.length), w.cell? ⟨b, o + i, none⟩ = some (.int .i32 l[i])) :
    Calls Tryd.prog 65 #[.slice (some ⟨b, o, none⟩) n c, .int .i64 at_] w fun e w' => PartTells ((digsS l (at_ + 1)).map fun x => (-(x.1 : Int), x.2)) e ∧ w = w' := by
  have HC := Lib.hid hc
  generalize hr : dg 0 (at_ + 1) (l.drop (at_ + 1)) = r
  have HR := Lib.hid hr
  have HN := Lib.hid hn
  clear hc hr hn
  go_enter Tryd.func65, Tryd.ntmps65
  go_wp2
  go_loop [1, 7] (fun p v => ∃ a j : Nat, j ≤ n ∧ at_ + 1 ≤ j ∧ p = .int .i64 j ∧ v = .int .i64 a ∧ a ≤ 9007199254740992 ∧ Hid (dg a j (l.drop j) = r)) (fun p _ => n - (intOf p).toNat)
  case atStart => exact ⟨0, at_ + 1, by omega, Nat.le_refl _, by first | rfl | go_num, rfl, by omega, HR⟩
  case round =>
    obtain ⟨a, j, hj, hja, rfl, rfl, ha, hq⟩ := hrel
    by_cases hlt : j < n
    · have hlt' : j < l.length := by rw [← HN.out]; exact hlt
      have hcell := HC.out j hlt'
      have H1 : Hid (dig l[j] = false → dg 0 (at_ + 1) (l.drop (at_ + 1)) = some (a, j)) := fun h => by rw [HR.out, ← hq.out]; exact dg_stop hlt' h
      have H2 : Hid (dig l[j] = true → 9007199254740992 < 10 * a + (l[j] - 48).toNat → dg 0 (at_ + 1) (l.drop (at_ + 1)) = none) := fun h h2 => by rw [HR.out, ← hq.out]; exact dg_over hlt' h h2
      have H3 : Hid (dig l[j] = true → ¬ 9007199254740992 < 10 * a + (l[j] - 48).toNat → dg (10 * a + (l[j] - 48).toNat) (j + 1) (l.drop (j + 1)) = r) :=
        fun h h2 => by rw [← hq.out]; exact (dg_next hlt' h h2).symm
      generalize l[j] = x at *
      clear hlt' hq
      by_cases d1 : 48 ≤ x
      · by_cases d2 : x ≤ 57
        · have hd : dig x = true := by simp [dig, d1, d2]
          by_cases ho : 9007199254740992 < 10 * (a : Int) + x - 48
          · have HE := Lib.hid (H2.out hd (by omega))
            have HE2 := Lib.hid (digsS_none HE.out)
            clear hd H1 H2 H3
            go_wp2
            go_ret2
            exact ⟨by rw [HE2.out]; rfl, rfl⟩
          · have HE := Lib.hid (H3.out hd (by omega))
            clear hd H1 H2 H3
            go_wp2
            go_round
            case rel => exact ⟨10 * a + (x - 48).toNat, j + 1, by omega, by omega, by go_num, congrArg (Value.int .i64) (by omega), by omega, HE⟩
            case measure => simp [intOf]; omega
        · have HE := Lib.hid (H1.out (by simp [dig, d2]))
          clear H1 H2 H3
          by_cases he : at_ + 1 < j
          · have HE2 : Hid (digsS l (at_ + 1) = some (a, j)) := by show _ = _; rw [digsS_of HE.out, if_pos he]
            have hbe : ((j : Int) == (at_ + 1 : Int)) = false := beq_eq_false_iff_ne.2 (by omega)
            go_wp2
            go_ret2
            exact ⟨by rw [HE2.out]; rfl, rfl⟩
          · have HE2 : Hid (digsS l (at_ + 1) = none) := by show _ = _; rw [digsS_of HE.out, if_neg he]
            obtain rfl : j = at_ + 1 := by omega
            go_wp2
            go_ret2
            exact ⟨by rw [HE2.out]; rfl, rfl⟩
      · have HE := Lib.hid (H1.out (by simp [dig, d1]))
        clear H1 H2 H3
        by_cases he : at_ + 1 < j
        · have HE2 : Hid (digsS l (at_ + 1) = some (a, j)) := by show _ = _; rw [digsS_of HE.out, if_pos he]
          have hbe : ((j : Int) == (at_ + 1 : Int)) = false := beq_eq_false_iff_ne.2 (by omega)
          go_wp2
          go_ret2
          exact ⟨by rw [HE2.out]; rfl, rfl⟩
        · have HE2 : Hid (digsS l (at_ + 1) = none) := by show _ = _; rw [digsS_of HE.out, if_neg he]
          obtain rfl : j = at_ + 1 := by omega
          go_wp2
          go_ret2
          exact ⟨by rw [HE2.out]; rfl, rfl⟩
    · have HE : Hid (dg 0 (at_ + 1) (l.drop (at_ + 1)) = some (a, j)) := by
        show _ = _
        rw [HR.out, ← hq.out]; exact dg_end (by rw [← HN.out]; exact hlt)
      clear hq
      by_cases he : at_ + 1 < j
      · have HE2 : Hid (digsS l (at_ + 1) = some (a, j)) := by show _ = _; rw [digsS_of HE.out, if_pos he]
        have hbe : ((j : Int) == (at_ + 1 : Int)) = false := beq_eq_false_iff_ne.2 (by omega)
        go_wp2
        go_ret2
        exact ⟨by rw [HE2.out]; rfl, rfl⟩
      · have HE2 : Hid (digsS l (at_ + 1) = none) := by show _ = _; rw [digsS_of HE.out, if_neg he]
        obtain rfl : j = at_ + 1 := by omega
        go_wp2
        go_ret2
        exact ⟨by rw [HE2.out]; rfl, rfl⟩

set_option maxRecDepth 100000 in
set_option maxHeartbeats 1000000 in
theorem part_lowx (l : List Int) (b o c n at_ : Nat) (w : World) (hn : n = l.length) (hm : n ≤ 4611686018427387904) (hlt0 : at_ < n) (x0 : Int) (hx0 : w.cell? ⟨b, o + at_, none⟩ = some (.int .i32 x0)) (hx1 : (x0 == 175) = false)
    (hc : ∀ i (h : i < l.length), w.cell? ⟨b, o + i, none⟩ = some (.int .i32 l[i])) :
    Calls Tryd.prog 65 #[.slice (some ⟨b, o, none⟩) n c, .int .i64 at_] w fun e w' => PartTells ((digsS l (at_)).map fun x => ((x.1 : Int), x.2)) e ∧ w = w' := by
  have HC := Lib.hid hc
  generalize hr : dg 0 (at_) (l.drop (at_)) = r
  have HR := Lib.hid hr
  have HN := Lib.hid hn
  clear hc hr hn
  go_enter Tryd.func65, Tryd.ntmps65
  go_wp2
  go_loop [1, 7] (fun p v => ∃ a j : Nat, j ≤ n ∧ at_ ≤ j ∧ p = .int .i64 j ∧ v = .int .i64 a ∧ a ≤ 9007199254740992 ∧ Hid (dg a j (l.drop j) = r)) (fun p _ => n - (intOf p).toNat)
  case atStart => exact ⟨0, at_, by omega, Nat.le_refl _, by first | rfl | go_num, rfl, by omega, HR⟩
  case round =>
    obtain ⟨a, j, hj, hja, rfl, rfl, ha, hq⟩ := hrel
    by_cases hlt : j < n
    · have hlt' : j < l.length := by rw [← HN.out]; exact hlt
      have hcell := HC.out j hlt'
      have H1 : Hid (dig l[j] = false → dg 0 (at_) (l.drop (at_)) = some (a, j)) := fun h => by rw [HR.out, ← hq.out]; exact dg_stop hlt' h
      have H2 : Hid (dig l[j] = true → 9007199254740992 < 10 * a + (l[j] - 48).toNat → dg 0 (at_) (l.drop (at_)) = none) := fun h h2 => by rw [HR.out, ← hq.out]; exact dg_over hlt' h h2
      have H3 : Hid (dig l[j] = true → ¬ 9007199254740992 < 10 * a + (l[j] - 48).toNat → dg (10 * a + (l[j] - 48).toNat) (j + 1) (l.drop (j + 1)) = r) :=
        fun h h2 => by rw [← hq.out]; exact (dg_next hlt' h h2).symm
      generalize l[j] = x at *
      clear hlt' hq
      by_cases d1 : 48 ≤ x
      · by_cases d2 : x ≤ 57
        · have hd : dig x = true := by simp [dig, d1, d2]
          by_cases ho : 9007199254740992 < 10 * (a : Int) + x - 48
          · have HE := Lib.hid (H2.out hd (by omega))
            have HE2 := Lib.hid (digsS_none HE.out)
            clear hd H1 H2 H3
            go_wp2
            go_ret2
            exact ⟨by rw [HE2.out]; rfl, rfl⟩
          · have HE := Lib.hid (H3.out hd (by omega))
            clear hd H1 H2 H3
            go_wp2
            go_round
            case rel => exact ⟨10 * a + (x - 48).toNat, j + 1, by omega, by omega, by go_num, congrArg (Value.int .i64) (by omega), by omega, HE⟩
            case measure => simp [intOf]; omega
        · have HE := Lib.hid (H1.out (by simp [dig, d2]))
          clear H1 H2 H3
          by_cases he : at_ < j
          · have HE2 : Hid (digsS l (at_) = some (a, j)) := by show _ = _; rw [digsS_of HE.out, if_pos he]
            have hbe : ((j : Int) == (at_ : Int)) = false := beq_eq_false_iff_ne.2 (by omega)
            go_wp2
            go_ret2
            exact ⟨by rw [HE2.out]; rfl, rfl⟩
          · have HE2 : Hid (digsS l (at_) = none) := by show _ = _; rw [digsS_of HE.out, if_neg he]
            obtain rfl : j = at_ := by omega
            go_wp2
            go_ret2
            exact ⟨by rw [HE2.out]; rfl, rfl⟩
      · have HE := Lib.hid (H1.out (by simp [dig, d1]))
        clear H1 H2 H3
        by_cases he : at_ < j
        · have HE2 : Hid (digsS l (at_) = some (a, j)) := by show _ = _; rw [digsS_of HE.out, if_pos he]
          have hbe : ((j : Int) == (at_ : Int)) = false := beq_eq_false_iff_ne.2 (by omega)
          go_wp2
          go_ret2
          exact ⟨by rw [HE2.out]; rfl, rfl⟩
        · have HE2 : Hid (digsS l (at_) = none) := by show _ = _; rw [digsS_of HE.out, if_neg he]
          obtain rfl : j = at_ := by omega
          go_wp2
          go_ret2
          exact ⟨by rw [HE2.out]; rfl, rfl⟩
    · have HE : Hid (dg 0 (at_) (l.drop (at_)) = some (a, j)) := by
        show _ = _
        rw [HR.out, ← hq.out]; exact dg_end (by rw [← HN.out]; exact hlt)
      clear hq
      by_cases he : at_ < j
      · have HE2 : Hid (digsS l (at_) = some (a, j)) := by show _ = _; rw [digsS_of HE.out, if_pos he]
        have hbe : ((j : Int) == (at_ : Int)) = false := beq_eq_false_iff_ne.2 (by omega)
        go_wp2
        go_ret2
        exact ⟨by rw [HE2.out]; rfl, rfl⟩
      · have HE2 : Hid (digsS l (at_) = none) := by show _ = _; rw [digsS_of HE.out, if_neg he]
        obtain rfl : j = at_ := by omega
        go_wp2
        go_ret2
        exact ⟨by rw [HE2.out]; rfl, rfl⟩

set_option maxRecDepth 100000 in
set_option maxHeartbeats 1000000 in
theorem part_lown (l : List Int) (b o c n at_ : Nat) (w : World) (hn : n = l.length) (_hm : n ≤ 4611686018427387904) (hlt0 : at_ ≤ n) (hge : n ≤ at_)
    (hc : ∀ i (h : i < l.length), w.cell? ⟨b, o + i, none⟩ = some (.int .i32 l[i])) :
    Calls Tryd.prog 65 #[.slice (some ⟨b, o, none⟩) n c, .int .i64 at_] w fun e w' => PartTells ((digsS l (at_)).map fun x => ((x.1 : Int), x.2)) e ∧ w = w' := by
  have HC := Lib.hid hc
  generalize hr : dg 0 (at_) (l.drop (at_)) = r
  have HR := Lib.hid hr
  have HN := Lib.hid hn
  clear hc hr hn
  go_enter Tryd.func65, Tryd.ntmps65
  go_wp2
  go_loop [1, 7] (fun p v => ∃ a j : Nat, j ≤ n ∧ at_ ≤ j ∧ p = .int .i64 j ∧ v = .int .i64 a ∧ a ≤ 9007199254740992 ∧ Hid (dg a j (l.drop j) = r)) (fun p _ => n - (intOf p).toNat)
  case atStart => exact ⟨0, at_, by omega, Nat.le_refl _, by first | rfl | go_num, rfl, by omega, HR⟩
  case round =>
    obtain ⟨a, j, hj, hja, rfl, rfl, ha, hq⟩ := hrel
    by_cases hlt : j < n
    · have hlt' : j < l.length := by rw [← HN.out]; exact hlt
      have hcell := HC.out j hlt'
      have H1 : Hid (dig l[j] = false → dg 0 (at_) (l.drop (at_)) = some (a, j)) := fun h => by rw [HR.out, ← hq.out]; exact dg_stop hlt' h
      have H2 : Hid (dig l[j] = true → 9007199254740992 < 10 * a + (l[j] - 48).toNat → dg 0 (at_) (l.drop (at_)) = none) := fun h h2 => by rw [HR.out, ← hq.out]; exact dg_over hlt' h h2
      have H3 : Hid (dig l[j] = true → ¬ 9007199254740992 < 10 * a + (l[j] - 48).toNat → dg (10 * a + (l[j] - 48).toNat) (j + 1) (l.drop (j + 1)) = r) :=
        fun h h2 => by rw [← hq.out]; exact (dg_next hlt' h h2).symm
      generalize l[j] = x at *
      clear hlt' hq
      by_cases d1 : 48 ≤ x
      · by_cases d2 : x ≤ 57
        · have hd : dig x = true := by simp [dig, d1, d2]
          by_cases ho : 9007199254740992 < 10 * (a : Int) + x - 48
          · have HE := Lib.hid (H2.out hd (by omega))
            have HE2 := Lib.hid (digsS_none HE.out)
            clear hd H1 H2 H3
            go_wp2
            go_ret2
            exact ⟨by rw [HE2.out]; rfl, rfl⟩
          · have HE := Lib.hid (H3.out hd (by omega))
            clear hd H1 H2 H3
            go_wp2
            go_round
            case rel => exact ⟨10 * a + (x - 48).toNat, j + 1, by omega, by omega, by go_num, congrArg (Value.int .i64) (by omega), by omega, HE⟩
            case measure => simp [intOf]; omega
        · have HE := Lib.hid (H1.out (by simp [dig, d2]))
          clear H1 H2 H3
          by_cases he : at_ < j
          · have HE2 : Hid (digsS l (at_) = some (a, j)) := by show _ = _; rw [digsS_of HE.out, if_pos he]
            have hbe : ((j : Int) == (at_ : Int)) = false := beq_eq_false_iff_ne.2 (by omega)
            go_wp2
            go_ret2
            exact ⟨by rw [HE2.out]; rfl, rfl⟩
          · have HE2 : Hid (digsS l (at_) = none) := by show _ = _; rw [digsS_of HE.out, if_neg he]
            obtain rfl : j = at_ := by omega
            go_wp2
            go_ret2
            exact ⟨by rw [HE2.out]; rfl, rfl⟩
      · have HE := Lib.hid (H1.out (by simp [dig, d1]))
        clear H1 H2 H3
        by_cases he : at_ < j
        · have HE2 : Hid (digsS l (at_) = some (a, j)) := by show _ = _; rw [digsS_of HE.out, if_pos he]
          have hbe : ((j : Int) == (at_ : Int)) = false := beq_eq_false_iff_ne.2 (by omega)
          go_wp2
          go_ret2
          exact ⟨by rw [HE2.out]; rfl, rfl⟩
        · have HE2 : Hid (digsS l (at_) = none) := by show _ = _; rw [digsS_of HE.out, if_neg he]
          obtain rfl : j = at_ := by omega
          go_wp2
          go_ret2
          exact ⟨by rw [HE2.out]; rfl, rfl⟩
    · have HE : Hid (dg 0 (at_) (l.drop (at_)) = some (a, j)) := by
        show _ = _
        rw [HR.out, ← hq.out]; exact dg_end (by rw [← HN.out]; exact hlt)
      clear hq
      by_cases he : at_ < j
      · have HE2 : Hid (digsS l (at_) = some (a, j)) := by show _ = _; rw [digsS_of HE.out, if_pos he]
        have hbe : ((j : Int) == (at_ : Int)) = false := beq_eq_false_iff_ne.2 (by omega)
        go_wp2
        go_ret2
        exact ⟨by rw [HE2.out]; rfl, rfl⟩
      · have HE2 : Hid (digsS l (at_) = none) := by show _ = _; rw [digsS_of HE.out, if_neg he]
        obtain rfl : j = at_ := by omega
        go_wp2
        go_ret2
        exact ⟨by rw [HE2.out]; rfl, rfl⟩

set_option maxHeartbeats 400000 in
theorem part_nil (a : Option Addr) (c : Nat) (w : World) :
    Calls Tryd.prog 65 #[.slice a 0 c, .int .i64 0] w fun e w' => PartTells none e ∧ w = w' := by
  go_enter Tryd.func65, Tryd.ntmps65
  go_wp2
  refine wp_loop_rounds 1 ?_
  rw [rounds_succ]
  go_wp2
  go_ret2
  exact ⟨rfl, rfl⟩

theorem part_any {w : World} {v : Value} {l : List Int} (h : Runes w v l) (hm : l.length ≤ 4611686018427387904) (at_ : Nat) (hat : at_ ≤ l.length) :
    Calls Tryd.prog 65 #[v, .int .i64 at_] w fun e w' => PartTells (wholeS l at_) e ∧ w = w' := by
  rcases h with ⟨a, c, rfl, rfl⟩ | ⟨b, o, n, c, rfl, hn, hcs⟩
  · obtain rfl : at_ = 0 := by simpa using hat
    exact part_nil a c w
  · by_cases hc : l[at_]? = some 175
    · rw [wholeS_high hc]
      obtain ⟨hlt, hget⟩ := List.getElem?_eq_some_iff.1 hc
      have := hcs at_ hlt
      rw [hget] at this
      exact part_high l b o c n at_ w hn (by omega) (by omega) this hcs
    · rw [wholeS_low hc]
      by_cases hlt : at_ < n
      · have hlt' : at_ < l.length := by omega
        refine part_lowx l b o c n at_ w hn (by omega) hlt l[at_] (hcs at_ hlt') (beq_eq_false_iff_ne.2 ?_) hcs
        intro e
        exact hc (List.getElem?_eq_some_iff.2 ⟨hlt', e⟩)
      · exact part_lown l b o c n at_ w hn (by omega) (by omega) (by omega) hcs
end Go.Proofs.YtnhnaallalgefaaDoor
