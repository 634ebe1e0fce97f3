/- lex.word at every sign. Conditions: at most 4096 signs. -/
import Derived.Test.YtnhnaallalgefaaDoorLexJ
namespace Go.Proofs.YtnhnaallalgefaaDoor
open Go Go.RowKit Go.Proofs Fl

theorem word_any (A : Option Addr) (n cc : Nat) (l : List Int) (i : Nat) (w : World) (hr : Runes w (.slice A n cc) l) (hcc : n ≤ cc) (hl : l.length ≤ 4096) (hi : i < l.length) :
    Calls Tryd.prog 103 #[.slice A n cc, .int .i64 (i : Int)] w fun e w' => TokTells (wordS l i) i w.heap.size e w' ∧ Below w.heap.size w w' := by
  obtain ⟨c, hc⟩ : ∃ c, l.getD i 0 = c := ⟨_, rfl⟩
  unfold wordS
  rw [hc]
  cases hd : digB c with
  | true => rw [if_pos (.inl rfl)]; exact word_dig A n cc l i w hr hl hi c hc hd
  | false =>
    by_cases h175 : c = 175
    · rw [if_pos (.inr h175)]; exact word_high A n cc l i w hr hl hi c hc hd h175
    rw [if_neg (by simp [h175])]
    by_cases h39 : c = 39
    · rw [if_pos h39]; exact word_quote A n cc l i w hr hl hi c hc hd h39
    rw [if_neg h39]
    cases hlt : letB c with
    | true => rw [if_pos rfl]; exact word_name A n cc l i w hr hcc hl hi c hc hd (by simpa using h175) (by simpa using h39) hlt
    | false =>
      rw [if_neg (by simp)]
      by_cases h10 : c = 10
      · have hk : kindS c = 7 := by unfold kindS; rw [if_pos (.inl h10)]
        rw [hk, if_neg (by omega)]
        exact word_nl A n cc l i w hr hl hi c hc hd hlt h10
      by_cases h89 : c = 8900
      · have hk : kindS c = 7 := by unfold kindS; rw [if_pos (.inr h89)]
        rw [hk, if_neg (by omega)]
        exact word_dia A n cc l i w hr hl hi c hc hd hlt h89
      have e1 : (c == 175) = false := by simpa using h175
      have e2 : (c == 39) = false := by simpa using h39
      have e3 : (c == 10) = false := by simpa using h10
      have e4 : (c == 8900) = false := by simpa using h89
      by_cases hv : c ∈ verbL
      · have hk : kindS c = 4 := by unfold kindS; rw [if_neg (by omega), if_pos hv]
        rw [hk, if_neg (by omega)]
        exact word_verb A n cc l i w hr hl hi c hc hd hlt e1 e2 e3 e4 (decide_eq_true hv)
      by_cases hg : c ∈ glyphL
      · have hk : kindS c = 5 := by unfold kindS; rw [if_neg (by omega), if_neg hv, if_pos hg]
        rw [hk, if_neg (by omega)]
        exact word_glyph A n cc l i w hr hl hi c hc hd hlt e1 e2 e3 e4 (decide_eq_false hv) (decide_eq_true hg)
      by_cases hm : c ∈ markL
      · have hk : kindS c = 6 := by unfold kindS; rw [if_neg (by omega), if_neg hv, if_neg hg, if_pos hm]
        rw [hk, if_neg (by omega)]
        exact word_mark A n cc l i w hr hl hi c hc hd hlt e1 e2 e3 e4 (decide_eq_false hv) (decide_eq_false hg) (decide_eq_true hm)
      · have hk : kindS c = 0 := by unfold kindS; rw [if_neg (by omega), if_neg hv, if_neg hg, if_neg hm]
        rw [hk, if_pos rfl]
        exact word_bad A n cc l i w hr hl hi c hc hd hlt e1 e2 e3 e4 (decide_eq_false hv) (decide_eq_false hg) (decide_eq_false hm)
end Go.Proofs.YtnhnaallalgefaaDoor
