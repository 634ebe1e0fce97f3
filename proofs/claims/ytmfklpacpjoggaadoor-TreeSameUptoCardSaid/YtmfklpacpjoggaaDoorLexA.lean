/- Walks of package lex and of its reference: in, IsVerb, In, Verbs, letter, digit. Conditions: as each theorem says. -/
import Derived.Test.YtmfklpacpjoggaaDoorMem
import Derived.Test.YtmfklpacpjoggaaDoorRun
import Derived.BigQuiet
namespace Go.Proofs.YtmfklpacpjoggaaDoor
open Go Go.RowKit Go.Proofs

set_option maxRecDepth 100000 in
theorem in_walk (c : Int) (s : ByteArray) (w : World) : Calls Tryd.prog 55 #[.int .i32 c, .string s] w fun e w' => e = .returned (.bool (decide (c ∈ runesOf s))) ∧ Below w.heap.size w w' := by
  obtain ⟨R, hR⟩ : ∃ R, R = decide (c ∈ runesOf s) := ⟨_, rfl⟩
  have HR0 : Hid (R = decide (c ∈ rl s (s.size - 0) 0)) := hR
  rw [← hR]
  clear hR
  go_enter Tryd.func55, Tryd.ntmps55
  go_wp2
  go_loopw [6] (fun _ wr => ∃ pos, wr = w.iter s pos ∧ Hid (R = decide (c ∈ rl s (s.size - pos) pos))) (fun _ wr => s.size - wr.iterPos w.heap.size)
  case atStart => exact ⟨0, rfl, HR0.out⟩
  case round =>
    obtain ⟨pos, rfl, hrel⟩ := hrel
    by_cases h : pos < s.size
    · have hnx := fun ty => run_next_any (P := Tryd.prog) w s pos ty h
      have HS := Lib.hid (rl_step s h)
      have hwd := Lib.decode_width_pos s pos h
      generalize Utf8.decode s pos = d at *
      obtain ⟨x, k⟩ := d
      simp only at hnx hwd HS
      by_cases hc : c = (x : Int)
      · have HT : Hid (R = true) := by unfold Hid; rw [hrel.out, HS.out]; simp [hc]
        subst hc
        go_wp2
        go_ret
        exact ⟨by rw [HT.out]; rfl, (Below.refl _ w).alloc (Nat.le_refl _) _⟩
      · have HT : Hid (R = decide (c ∈ rl s (s.size - (pos + k)) (pos + k))) := by unfold Hid; rw [hrel.out, HS.out]; simp [hc]
        have hc2 : ((x : Int) == c) = false := by simp; omega
        clear HS
        go_wp2
        go_roundw
        case rel => exact ⟨pos + k, rfl, HT.out⟩
        case measure => simp; omega
    · have hnx := fun ty => run_next_end (P := Tryd.prog) w s pos ty h
      have HT : Hid (R = false) := by unfold Hid; rw [hrel.out, rl_end s (by omega)]; simp
      go_wp2
      go_ret
      exact ⟨by rw [HT.out]; rfl, (Below.refl _ w).alloc (Nat.le_refl _) _⟩

/-- may a name begin with it? -/
def letB (c : Int) : Bool := decide (97 ≤ c ∧ c ≤ 122 ∨ 65 ≤ c ∧ c ≤ 90 ∨ c = 95 ∨ c = 8710)
/-- is it a digit? -/
def digB (c : Int) : Bool := decide (48 ≤ c ∧ c ≤ 57)

theorem letB_yes {c : Int} (h : 97 ≤ c ∧ c ≤ 122 ∨ 65 ≤ c ∧ c ≤ 90 ∨ c = 95 ∨ c = 8710) : letB c = true := decide_eq_true h
theorem letB_no {c : Int} (h : ¬ (97 ≤ c ∧ c ≤ 122 ∨ 65 ≤ c ∧ c ≤ 90 ∨ c = 95 ∨ c = 8710)) : letB c = false := decide_eq_false h
theorem digB_yes {c : Int} (h : 48 ≤ c ∧ c ≤ 57) : digB c = true := decide_eq_true h
theorem digB_no {c : Int} (h : ¬ (48 ≤ c ∧ c ≤ 57)) : digB c = false := decide_eq_false h
theorem letB_parts (c : Int) : (c < 65 ∧ c < 95 ∧ letB c = false) ∨ (65 ≤ c ∧ c ≤ 90 ∧ letB c = true) ∨ (90 < c ∧ c < 95 ∧ letB c = false) ∨ (c = 95 ∧ letB c = true) ∨ (c = 96 ∧ letB c = false) ∨ (97 ≤ c ∧ c ≤ 122 ∧ letB c = true) ∨ (122 < c ∧ c < 8710 ∧ letB c = false) ∨ (c = 8710 ∧ letB c = true) ∨ (8710 < c ∧ letB c = false) := by
  rcases (show c < 65 ∨ (65 ≤ c ∧ c ≤ 90) ∨ (90 < c ∧ c < 95) ∨ c = 95 ∨ c = 96 ∨ (97 ≤ c ∧ c ≤ 122) ∨ (122 < c ∧ c < 8710) ∨ c = 8710 ∨ 8710 < c by omega) with h | h | h | h | h | h | h | h | h
  · exact .inl ⟨h, by omega, letB_no (by omega)⟩
  · exact .inr (.inl ⟨h.1, h.2, letB_yes (by omega)⟩)
  · exact .inr (.inr (.inl ⟨h.1, h.2, letB_no (by omega)⟩))
  · exact .inr (.inr (.inr (.inl ⟨h, letB_yes (by omega)⟩)))
  · exact .inr (.inr (.inr (.inr (.inl ⟨h, letB_no (by omega)⟩))))
  · exact .inr (.inr (.inr (.inr (.inr (.inl ⟨h.1, h.2, letB_yes (by omega)⟩)))))
  · exact .inr (.inr (.inr (.inr (.inr (.inr (.inl ⟨h.1, h.2, letB_no (by omega)⟩))))))
  · exact .inr (.inr (.inr (.inr (.inr (.inr (.inr (.inl ⟨h, letB_yes (by omega)⟩)))))))
  · exact .inr (.inr (.inr (.inr (.inr (.inr (.inr (.inr ⟨h, letB_no (by omega)⟩)))))))
theorem digB_parts (c : Int) : (c < 48 ∧ digB c = false) ∨ (48 ≤ c ∧ c ≤ 57 ∧ digB c = true) ∨ (57 < c ∧ digB c = false) := by
  rcases (show c < 48 ∨ (48 ≤ c ∧ c ≤ 57) ∨ 57 < c by omega) with h | h | h
  · exact .inl ⟨h, digB_no (by omega)⟩
  · exact .inr (.inl ⟨h.1, h.2, digB_yes (by omega)⟩)
  · exact .inr (.inr ⟨h, digB_no (by omega)⟩)

set_option maxRecDepth 100000 in
theorem letter_walk (c : Int) (w : World) : Calls Tryd.prog 51 #[.int .i32 c] w fun e w' => e = .returned (.bool (letB c)) ∧ w = w' := by
  rcases letB_parts c with ⟨h, h2, hT⟩ | ⟨h, h2, hT⟩ | ⟨h, h2, hT⟩ | ⟨h, hT⟩ | ⟨h, hT⟩ | ⟨h, h2, hT⟩ | ⟨h, h2, hT⟩ | ⟨h, hT⟩ | ⟨h, hT⟩
  all_goals
    have HT := Lib.hid hT
    clear hT
    generalize letB c = R at *
    try subst h
    go_enter Tryd.func51, Tryd.ntmps51
    go_wp2
    go_ret
    exact ⟨by rw [HT.out]; first | rfl | (show Ending.returned (Value.bool _) = _; refine congrArg (fun b => Ending.returned (Value.bool b)) ?_; simp; omega), rfl⟩

set_option maxRecDepth 100000 in
theorem digit_walk (c : Int) (w : World) : Calls Tryd.prog 53 #[.int .i32 c] w fun e w' => e = .returned (.bool (digB c)) ∧ w = w' := by
  rcases digB_parts c with ⟨h, hT⟩ | ⟨h, h2, hT⟩ | ⟨h, hT⟩
  all_goals
    have HT := Lib.hid hT
    clear hT
    generalize digB c = R at *
    try subst h
    go_enter Tryd.func53, Tryd.ntmps53
    go_wp2
    go_ret
    exact ⟨by rw [HT.out]; first | rfl | (show Ending.returned (Value.bool _) = _; refine congrArg (fun b => Ending.returned (Value.bool b)) ?_; simp; omega), rfl⟩

/-- neither a letter nor a digit -/
def oddB (c : Int) : Bool := !letB c && !digB c
theorem odd_walk (c : Int) (w : World) : Calls Tryd.prog 52 #[.int .i32 c] w fun e w' => e = .returned (.bool (oddB c)) ∧ w = w' := by
  have HO : Hid (oddB c = (!letB c && !digB c)) := rfl
  go_enter Tryd.func52, Tryd.ntmps52
  go_wp2_with fail
  refine (letter_walk c _).mono ?_
  rintro e w' ⟨rfl, rfl⟩
  cases hb : letB c
  · have HT : Hid (oddB c = !digB c) := by unfold Hid; rw [HO.out, hb]; rfl
    clear hb
    go_wp2_with fail
    refine (digit_walk c _).mono ?_
    rintro e w' ⟨rfl, rfl⟩
    go_wp2
    go_ret
    exact ⟨by rw [HT.out]; rfl, rfl⟩
  · have HT : Hid (oddB c = false) := by unfold Hid; rw [HO.out, hb]; rfl
    clear hb
    go_wp2
    go_ret
    exact ⟨by rw [HT.out]; rfl, rfl⟩

end Go.Proofs.YtmfklpacpjoggaaDoor
