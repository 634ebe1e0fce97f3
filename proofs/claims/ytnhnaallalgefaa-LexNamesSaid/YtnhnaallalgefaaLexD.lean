/- The walk of the reference's GoodName. Conditions: as each theorem says. -/
import Derived.Test.YtnhnaallalgefaaLexC
namespace Go.Proofs.Ytnhnaallalgefaa
open Go Go.RowKit Go.Proofs

/-- the sign at a place cannot stand there in a name -/
def badB (c : Int) (k : Nat) : Bool := !letB c && (decide (k = 0) || !digB c)
theorem good_bad {l : List Int} {k : Nat} (hk : k < l.length) (h : badB (l.getD k 0) k = true) : goodB l = false := by
  unfold badB at h
  simp only [Bool.and_eq_true, Bool.not_eq_true', Bool.or_eq_true, decide_eq_true_eq] at h
  unfold goodB
  by_cases h0 : k = 0
  · subst h0; rw [h.1]; simp
  · have : l.any oddB = true := any_at hk (by unfold oddB; rw [h.1, h.2.resolve_left h0]; rfl)
    rw [this]; simp
theorem good_fine {l : List Int} (h : ∀ k, k < l.length → badB (l.getD k 0) k = false) : goodB l = (decide (1 ≤ l.length) && decide (l.length ≤ 32)) := by
  unfold goodB
  by_cases hl : 1 ≤ l.length
  · have h1 : letB (l.getD 0 0) = true := by have := h 0 (by omega); unfold badB at this; simpa using this
    have h2 : l.any oddB = false := any_no fun k hk => by
      have := h k hk
      unfold badB at this
      unfold oddB
      by_cases h0 : k = 0
      · subst h0; rw [h1]; rfl
      · simpa [h0] using this
    rw [h1, h2]; simp
  · rw [decide_eq_false hl]; simp

set_option maxRecDepth 100000 in
set_option maxHeartbeats 1600000 in
theorem rGood_walk (v : Value) (l : List Int) (w : World) (hr : Runes w v l) (hl : l.length ≤ 140737488351232) :
    Calls Try.prog 10 #[v] w fun e w' => e = .returned (.bool (goodB l)) ∧ w = w' := by
  obtain ⟨A, cc, n, rfl, hn, hcell⟩ := hr.opn
  have HC := Lib.hid hcell
  have HN := Lib.hid hn
  have hn2 : n ≤ 140737488351232 := by omega
  have HY : Hid (∀ k, k < l.length → badB (l.getD k 0) k = true → goodB l = false) := fun k h h2 => good_bad h h2
  have HX : Hid ((∀ k, k < l.length → badB (l.getD k 0) k = false) → goodB l = (decide (1 ≤ l.length) && decide (l.length ≤ 32))) := fun h => good_fine h
  clear hcell hn hr hl
  go_enter Try.func10, Try.ntmps10
  go_wp2
  go_loop [3] (fun i => ∃ k : Nat, k ≤ n ∧ i = .int .i64 (k : Int) ∧ Hid (∀ j, j < k → badB (l.getD j 0) j = false)) (fun i => n - (intOf i).toNat)
  case atStart => exact ⟨0, Nat.zero_le _, rfl, fun j h => absurd h (by omega)⟩
  case round =>
    obtain ⟨k, hk, rfl, hall⟩ := hrel
    by_cases hlt : k < n
    · have hkl : k < l.length := by have := HN.out; omega
      obtain ⟨b, o, rfl, hce⟩ := HC.out k hkl
      have hce2 := hce _ (Below.refl _ _)
      clear hce
      obtain ⟨x, hx⟩ : ∃ x, x = l.getD k 0 := ⟨_, rfl⟩
      rw [← hx] at hce2
      have HXX := Lib.hid hx
      clear hx
      have HL := Lib.hid (letter_walk x)
      have HLW : Hid (∀ w, Calls Try.prog 17 #[.int .i32 x] w fun e w' => e = .returned (.bool (letB x)) ∧ w = w') := rLetter_walk x
      have HDW : Hid (∀ w, Calls Try.prog 18 #[.int .i32 x] w fun e w' => e = .returned (.bool (digB x)) ∧ w = w') := rDigit_walk x
      cases hb : letB x with
      | true =>
        have HA : Hid (∀ j, j < k + 1 → badB (l.getD j 0) j = false) := by
          intro j hj
          rcases Nat.lt_or_ge j k with h | h
          · exact hall.out j h
          · obtain rfl : j = k := by omega
            rw [← HXX.out]; unfold badB; rw [hb]; rfl
        rw [hb] at HLW
        clear hall hb HL
        go_wp2_with fail
        refine (HLW.out _).mono ?_
        rintro e w' ⟨rfl, rfl⟩
        go_wp2
        go_round
        case rel => exact ⟨k + 1, by omega, by go_num, HA⟩
        case measure => simp [intOf]; omega
      | false =>
        by_cases h0 : k = 0
        · have HT := Lib.hid (HY.out k hkl (by rw [← HXX.out]; unfold badB; rw [hb, decide_eq_true h0]; rfl))
          rw [hb] at HLW
          subst h0
          rw [Nat.add_zero] at hce2
          clear hall hb HL
          go_wp2_with fail
          refine (HLW.out _).mono ?_
          rintro e w' ⟨rfl, rfl⟩
          go_wp2
          go_ret
          exact ⟨by rw [HT.out]; rfl, rfl⟩
        · have hk0 : ((k : Int) == 0) = false := by simp; omega
          cases hd : digB x with
          | true =>
            have HA : Hid (∀ j, j < k + 1 → badB (l.getD j 0) j = false) := by
              intro j hj
              rcases Nat.lt_or_ge j k with h | h
              · exact hall.out j h
              · obtain rfl : j = k := by omega
                rw [← HXX.out]; unfold badB; rw [hb, hd, decide_eq_false h0]; rfl
            rw [hb] at HLW
            rw [hd] at HDW
            clear hall hb HL hd
            go_wp2_with fail
            refine (HLW.out _).mono ?_
            rintro e w' ⟨rfl, rfl⟩
            go_wp2_with fail
            refine (HDW.out _).mono ?_
            rintro e w' ⟨rfl, rfl⟩
            go_wp2
            go_round
            case rel => exact ⟨k + 1, by omega, by go_num, HA⟩
            case measure => simp [intOf]; omega
          | false =>
            have HT := Lib.hid (HY.out k hkl (by rw [← HXX.out]; unfold badB; rw [hb, hd]; simp))
            rw [hb] at HLW
            rw [hd] at HDW
            clear hall hb HL hd
            go_wp2_with fail
            refine (HLW.out _).mono ?_
            rintro e w' ⟨rfl, rfl⟩
            go_wp2_with fail
            refine (HDW.out _).mono ?_
            rintro e w' ⟨rfl, rfl⟩
            go_wp2
            go_ret
            exact ⟨by rw [HT.out]; rfl, rfl⟩
    · have HT : Hid (goodB l = (decide (1 ≤ n) && decide (n ≤ 32))) := by
        unfold Hid; rw [HX.out fun j hj => hall.out j (by have := HN.out; omega), ← HN.out]
      clear hall
      by_cases h1 : 1 ≤ n
      · have HT2 : Hid (goodB l = decide (n ≤ 32)) := by unfold Hid; rw [HT.out, decide_eq_true h1]; rfl
        clear HT
        by_cases h2 : n ≤ 32
        · have HT3 : Hid (goodB l = true) := by unfold Hid; rw [HT2.out, decide_eq_true h2]
          clear HT2
          go_wp2
          go_ret
          exact ⟨by rw [HT3.out]; show Ending.returned (Value.bool _) = _; refine congrArg (fun b => Ending.returned (Value.bool b)) ?_; simp; omega, rfl⟩
        · have HT3 : Hid (goodB l = false) := by unfold Hid; rw [HT2.out, decide_eq_false h2]
          clear HT2
          go_wp2
          go_ret
          exact ⟨by rw [HT3.out]; show Ending.returned (Value.bool _) = _; refine congrArg (fun b => Ending.returned (Value.bool b)) ?_; simp; omega, rfl⟩
      · have HT3 : Hid (goodB l = false) := by unfold Hid; rw [HT.out, decide_eq_false h1]; rfl
        clear HT
        go_wp2
        go_ret
        exact ⟨by rw [HT3.out]; rfl, rfl⟩
end Go.Proofs.Ytnhnaallalgefaa
