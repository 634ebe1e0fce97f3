/- The walk of lex.number. Conditions: at most 4096 signs. -/
import Derived.Test.YtnhnaallalgefaaDoorLexE
import Derived.Test.YtnhnaallalgefaaDoorLitL
namespace Go.Proofs.YtnhnaallalgefaaDoor
open Go Go.RowKit Go.Proofs Fl

theorem numberS_none {l : List Int} {i : Nat} (h : readS l i = none) : numberS l i = none := by unfold numberS; rw [h]
theorem numberS_end {l : List Int} {i x e : Nat} (h : readS l i = some (x, e)) (he : ¬ e < l.length) : numberS l i = some ({ kind := 1, at_ := i, num := x }, e) := by unfold numberS; rw [h]; simp only; rw [if_neg (by omega)]
theorem numberS_stick {l : List Int} {i x e : Nat} (h : readS l i = some (x, e)) (he : e < l.length) (hs : stickB (l.getD e 0) = true) : numberS l i = none := by unfold numberS; rw [h]; simp only; rw [if_pos ⟨he, hs⟩]
theorem numberS_free {l : List Int} {i x e : Nat} (h : readS l i = some (x, e)) (hs : stickB (l.getD e 0) = false) : numberS l i = some ({ kind := 1, at_ := i, num := x }, e) := by unfold numberS; rw [h]; simp only; rw [if_neg (by rw [hs]; simp)]

set_option maxRecDepth 100000 in
set_option maxHeartbeats 1600000 in
theorem number_walk (A : Option Addr) (n cc : Nat) (l : List Int) (i : Nat) (w : World) (hr : Runes w (.slice A n cc) l) (hl : l.length ≤ 4096) (hi : i < l.length) :
    Calls Tryd.prog 131 #[.slice A n cc, .int .i64 (i : Int)] w fun e w' => TokTells (numberS l i) i w.heap.size e w' ∧ Below w.heap.size w w' := by
  obtain ⟨A', cc', n', hv', hn, hcell⟩ := hr.opn
  obtain ⟨rfl, rfl, rfl⟩ : A = A' ∧ n = n' ∧ cc = cc' := by simpa using hv'
  have HC := Lib.hid hcell
  have HN := Lib.hid hn
  have hn4 : n ≤ 4096 := by omega
  have hin : i < n := by omega
  have HRD : Hid (∀ w', Below w.heap.size w w' → Calls Tryd.prog 17 #[.slice A n cc, .int .i64 (i : Int)] w' fun e w2 => ReadTells (readS l i) i e ∧ w' = w2) :=
    fun w' hb => lread_any (hr.below hb) (by omega) _
  have HB : Hid (Below w.heap.size w (w.alloc (.cells #[.int .i64 0, .int .i64 0, .float .f64 0, .slice none 0 0, .string ⟨#[]⟩, .int .i32 0] 136))) := (Below.refl _ w).alloc (Nat.le_refl _) _
  have hsf := st_float
  clear hv' hn hcell hr
  cases hrd : readS l i with
  | none =>
    have HF := Lib.hid (numberS_none hrd)
    rw [hrd] at HRD
    clear hrd
    go_enter Tryd.func131, Tryd.ntmps131
    go_wp2_with fail
    refine (HRD.out _ HB.out).mono ?_
    rintro e w' ⟨he, rfl⟩
    obtain rfl : e = _ := he
    go_wp2
    refine bodyPost_ret (v := .tuple #[tok0V, .int .i64 (i : Int), .bool false]) (by simp [results, Tryd.results131, go_sem, tok0V]) rfl ⟨.no HF.out, HB.out⟩
  | some p =>
    obtain ⟨x, e⟩ := p
    have hbd := readS_bd hrd
    have hen : e ≤ n := by have := HN.out; omega
    have HRD2 : Hid (∀ w', Below w.heap.size w w' → Calls Tryd.prog 17 #[.slice A n cc, .int .i64 (i : Int)] w' fun e2 w2 => e2 = .returned (.tuple #[.float .f64 x, .int .i64 (e : Int), .bool true]) ∧ w' = w2) := by
      intro w' hb
      have := HRD.out w' hb
      rw [hrd] at this
      exact this
    clear HRD
    by_cases he : e < l.length
    · have hen2 : e < n := by have := HN.out; omega
      obtain ⟨b, o, rfl, hce⟩ := HC.out e he
      have hce2 := hce _ HB.out
      clear hce
      obtain ⟨c, hc⟩ : ∃ c, c = l.getD e 0 := ⟨_, rfl⟩
      rw [← hc] at hce2
      have HLW : Hid (∀ w, Calls Tryd.prog 133 #[.int .i32 c] w fun e w' => e = .returned (.bool (letB c)) ∧ w = w') := letter_walk c
      have HDW : Hid (∀ w, Calls Tryd.prog 130 #[.int .i32 c] w fun e w' => e = .returned (.bool (digB c)) ∧ w = w') := digit_walk c
      cases hb : letB c with
      | true =>
        have HF := Lib.hid (numberS_stick hrd he (by rw [← hc]; unfold stickB; rw [hb]; rfl))
        rw [hb] at HLW
        clear hrd hc hb hbd he HDW hi
        go_enter Tryd.func131, Tryd.ntmps131
        go_wp2_with fail
        refine (HRD2.out _ HB.out).mono ?_
        rintro e w' ⟨rfl, rfl⟩
        go_wp2_with fail
        refine (HLW.out _).mono ?_
        rintro e w' ⟨rfl, rfl⟩
        go_wp2
        refine bodyPost_ret (v := .tuple #[tok0V, .int .i64 (i : Int), .bool false]) (by simp [results, Tryd.results131, go_sem, tok0V]) rfl ⟨.no HF.out, HB.out⟩
      | false =>
        rw [hb] at HLW
        cases hd : digB c with
        | true =>
          have HF := Lib.hid (numberS_stick hrd he (by rw [← hc]; unfold stickB; rw [hb, hd]; rfl))
          rw [hd] at HDW
          clear hrd hc hb hd hbd he hi
          go_enter Tryd.func131, Tryd.ntmps131
          go_wp2_with fail
          refine (HRD2.out _ HB.out).mono ?_
          rintro e w' ⟨rfl, rfl⟩
          go_wp2_with fail
          refine (HLW.out _).mono ?_
          rintro e w' ⟨rfl, rfl⟩
          go_wp2_with fail
          refine (HDW.out _).mono ?_
          rintro e w' ⟨rfl, rfl⟩
          go_wp2
          refine bodyPost_ret (v := .tuple #[tok0V, .int .i64 (i : Int), .bool false]) (by simp [results, Tryd.results131, go_sem, tok0V]) rfl ⟨.no HF.out, HB.out⟩
        | false =>
          rw [hd] at HDW
          by_cases h175 : c = 175
          · have HF := Lib.hid (numberS_stick hrd he (by rw [← hc]; unfold stickB; rw [decide_eq_true h175]; simp))
            clear hc
            subst h175
            clear hrd hb hd hbd he hi
            go_enter Tryd.func131, Tryd.ntmps131
            go_wp2_with fail
            refine (HRD2.out _ HB.out).mono ?_
            rintro e w' ⟨rfl, rfl⟩
            go_wp2_with fail
            refine (HLW.out _).mono ?_
            rintro e w' ⟨rfl, rfl⟩
            go_wp2_with fail
            refine (HDW.out _).mono ?_
            rintro e w' ⟨rfl, rfl⟩
            go_wp2
            refine bodyPost_ret (v := .tuple #[tok0V, .int .i64 (i : Int), .bool false]) (by simp [results, Tryd.results131, go_sem, tok0V]) rfl ⟨.no HF.out, HB.out⟩
          · have HF := Lib.hid (numberS_free hrd (by rw [← hc]; unfold stickB; rw [hb, hd, decide_eq_false h175]; rfl))
            have h176 : (c == 175) = false := by simpa using h175
            clear hrd hc hb hd hbd he hi h175
            go_enter Tryd.func131, Tryd.ntmps131
            go_wp2_with fail
            refine (HRD2.out _ HB.out).mono ?_
            rintro e w' ⟨rfl, rfl⟩
            go_wp2_with fail
            refine (HLW.out _).mono ?_
            rintro e w' ⟨rfl, rfl⟩
            go_wp2_with fail
            refine (HDW.out _).mono ?_
            rintro e w' ⟨rfl, rfl⟩
            go_wp2
            refine bodyPost_ret (v := .tuple #[tokV { kind := 1, at_ := i, num := x } (.slice none 0 0), .int .i64 (e : Int), .bool true]) (by simp [results, Tryd.results131, go_sem, tokV]) rfl ⟨.yes HF.out (OwnR.nil _ _), (Below.refl _ w).alloc (Nat.le_refl _) _⟩
    · have HF := Lib.hid (numberS_end hrd he)
      have hen2 : n ≤ e := by have := HN.out; omega
      clear hrd hbd he hi
      go_enter Tryd.func131, Tryd.ntmps131
      go_wp2_with fail
      refine (HRD2.out _ HB.out).mono ?_
      rintro e w' ⟨rfl, rfl⟩
      go_wp2
      refine bodyPost_ret (v := .tuple #[tokV { kind := 1, at_ := i, num := x } (.slice none 0 0), .int .i64 (e : Int), .bool true]) (by simp [results, Tryd.results131, go_sem, tokV]) rfl ⟨.yes HF.out (OwnR.nil _ _), (Below.refl _ w).alloc (Nat.le_refl _) _⟩
end Go.Proofs.YtnhnaallalgefaaDoor
