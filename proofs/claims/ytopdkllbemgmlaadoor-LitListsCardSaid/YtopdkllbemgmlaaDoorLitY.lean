/- The walk of the statement LitLists. Conditions: the table of math/bits reads as its text lays it; the list takes no more than the form's reach. -/
import Derived.Test.YtopdkllbemgmlaaDoorLitX
namespace Go.Proofs.YtopdkllbemgmlaaDoor
open Go Go.RowKit Go.Proofs Fl

/-- what holds while the texts are held against each other -/
def HeldU (w0 W : World) (v tv : Value) (l : List Int) (p : Nat → Bool × Nat) (n : Nat) : Prop := Runes W v l ∧ TzTab W ∧ Below w0.heap.size w0 W ∧ Floats W tv p n
theorem HeldU.step {w0 W W2 : World} {v tv : Value} {l : List Int} {p : Nat → Bool × Nat} {n : Nat} {S : ByteArray} (hS : S = runesBytes l)
    (h : (convert 26 9 v).run Tryd.prog W = .ok (.string S) W ∧ HeldU w0 W v tv l p n) (hb : Below W.heap.size W W2) :
    (convert 26 9 v).run Tryd.prog W2 = .ok (.string S) W2 ∧ HeldU w0 W2 v tv l p n := by
  obtain ⟨_, h1, h2, h3, h4⟩ := h
  have h1' := h1.below hb
  exact ⟨by rw [hS]; exact conv_runes h1', h1', h2.below hb, h3.trans (hb.mono h3.size), h4.below hb⟩

set_option maxRecDepth 100000 in
set_option maxHeartbeats 1600000 in
theorem litLists_core (a0 : Option Addr) (n c0 : Nat) (p : Nat → Bool × Nat) (t : Nat → List Int) (hp : NumsOk p t n) (hn60 : n ≤ 60) (hn0 : 0 < n) (w : World) (ht : TzTab w)
    (htd : Calls Tryd.prog 19 #[.slice a0 n c0] w fun e w' => TidyL w p n n e w') :
    Calls Tryd.prog 7 #[.slice a0 n c0] w fun e w' => e = .returned (.bool true) ∧ Below w.heap.size w w' := by
  have HTD := Lib.hid htd
  have HT := Lib.hid ht
  have HP := Lib.hid hp
  have HLEN := Lib.hid (joinT_len (t := t) (n := n) (fun i hi => (hp.len i hi).2) n (Nat.le_refl _))
  clear htd ht hp
  go_enter Tryd.func7, Tryd.ntmps7
  go_wp2_with fail
  refine HTD.out.mono ?_
  rintro e w1 ⟨hb1, ⟨_, tv, rfl, hown⟩ | ⟨hlt, _⟩⟩
  case inr => exact absurd hlt (Nat.lt_irrefl _)
  have hfl : Floats w1 tv p n := hown.reads
  clear hown
  obtain ⟨b, o, c, rfl, hc⟩ : ∃ b o c, tv = .slice (some ⟨b, o, none⟩) n c ∧ ∀ i, i < n → w1.cell? ⟨b, o + i, none⟩ = some (fl (p i)) := by
    rcases hfl.cases with ⟨_, _, _, h⟩ | h
    · omega
    · exact h
  have HC := Lib.hid hc
  have HFL := Lib.hid hfl
  have HT1 := Lib.hid (HT.out.below hb1)
  clear hc hfl
  go_wp2_with fail
  refine (numbers_any HFL.out HP.out hn60 HT1.out).mono ?_
  rintro e w2 ⟨sv, rfl, hs, hb2⟩
  have hj0 : 0 < (joinT t n).length := by
    have h1 := (read_at HP.out (show 0 < n by omega)).2.1
    have h2 := (HP.out.len 0 hn0).1
    have : (joinT t (0 + 1)).length = (t 0).length := by simp [joinT]
    omega
  obtain ⟨g, sc, hsv, hcl⟩ := hs.form (fun e => by rw [e] at hj0; simp at hj0)
  have hr := hs.runes
  subst hsv
  have HCL := Lib.hid (fun W (h : OwnR W w1.heap.size _ _) => hcl W _ h)
  have hb12 := hb1.trans (hb2.mono hb1.size)
  have hc1 := conv_runes hr
  have hs1 : HeldU w w2.drew (.slice (some ⟨g, 0, none⟩) (joinT t n).length sc) (.slice (some ⟨b, o, none⟩) n c) (joinT t n) p n := ⟨hr, HT1.out.below hb2.drew, hb12.drew, HFL.out.below hb2.drew⟩
  generalize hSl : runesBytes (joinT t n) = S at *
  have HSl := Lib.hid hSl.symm
  have hcd : (convert 26 9 (.slice (some ⟨g, 0, none⟩) (joinT t n).length sc)).run Tryd.prog w2.drew = .ok (.string S) w2.drew := by rw [← hSl]; exact conv_runes (w := w2.drew) hr
  have HSR : Hid (∀ W, Floats W (.slice (some ⟨b, o, none⟩) n c) p n → Calls Tryd.prog 21 #[.slice (some ⟨b, o, none⟩) n c] W fun e w' => Texts W S e w') := by
    rw [← hSl]; exact fun W h => rnumbers_any h HP.out hn60
  clear hSl hs hr hcl hc1 hb12
  go_wp2_with fail
  go_region_held3 (fun W => (convert 26 9 (.slice (some ⟨g, 0, none⟩) (joinT t n).length sc)).run Tryd.prog W = .ok (.string S) W ∧ HeldU w W (.slice (some ⟨g, 0, none⟩) (joinT t n).length sc) (.slice (some ⟨b, o, none⟩) n c) (joinT t n) p n) (first | assumption | exact ⟨hcd, hs1⟩) (first | (go_at_call 21; refine (HSR.out _ (‹_ ∧ HeldU _ _ _ _ _ _ _›).2.2.2.2).mono ?_; rintro e w3 ⟨rfl, hb3⟩; have hs3 := HeldU.step HSl.out (by assumption) hb3))
  obtain ⟨_, hr3, ht3, hb3', hf3⟩ := hs3
  have HR3 := Lib.hid hr3
  have HT3 := Lib.hid ht3
  have HB3 := Lib.hid hb3'
  have hc3 : ∀ i, i < n → w3.cell? ⟨b, o + i, none⟩ = some (fl (p i)) := by
    rcases hf3.cases with ⟨_, _, _, h⟩ | ⟨b', o', c', e, h⟩
    · omega
    · cases e; exact h
  have hc4 : ∀ i (h : i < (joinT t n).length), w3.cell? ⟨g, 0 + i, none⟩ = some (.int .i32 (joinT t n)[i]) := by
    rcases hr3 with ⟨_, _, _, h⟩ | ⟨b', o', n', c', e, _, h⟩
    · rw [h] at hj0; simp at hj0
    · cases e; exact h
  have HC3 := Lib.hid hc3
  have HC4 := Lib.hid hc4
  clear hr3 ht3 hb3' hf3 hc3 hc4 hb3 hs1 hcd hb1 hb2
  go_wp2
  go_loop [6, 7] (fun at_ i => ∃ k : Nat, k ≤ n ∧ i = .int .i64 k ∧ at_ = .int .i64 (offT t k)) (fun _ i => n - (intOf i).toNat)
  case atStart => exact ⟨0, Nat.zero_le _, rfl, rfl⟩
  case round =>
    obtain ⟨k, hk, rfl, rfl⟩ := hrel
    have hL : (joinT t n).length ≤ 4000 := by have := HLEN.out; omega
    by_cases hlt : k < n
    · obtain ⟨h1, h2, h3⟩ := read_at HP.out hlt
      have HRD : Hid (∀ w0, w3 = w0 → Calls Tryd.prog 11 #[.slice (some ⟨g, 0, none⟩) (joinT t n).length sc, .int .i64 (offT t k)] w0 fun e w' => e = .returned (.tuple #[.float .f64 (W (p k).1 (p k).2), .int .i64 (joinT t (k + 1)).length, .bool true]) ∧ w0 = w') := by
        rintro w0 rfl
        have hlen := HLEN.out
        have := lread_any HR3.out (by omega) (offT t k)
        rw [h1] at this
        exact this
      have hct := HC3.out k hlt
      unfold fl at hct
      have HBT := Lib.hid (bits_same (p k).1 (HP.out.rep k hlt))
      have HOF := Lib.hid (offT_succ t k)
      generalize W (p k).1 (p k).2 = y at *
      by_cases hl : k + 1 < n
      · have h4 := h3 hl
        obtain ⟨hlj, hget⟩ := List.getElem?_eq_some_iff.1 h4
        have hcs := HC4.out _ hlj
        rw [hget, Nat.zero_add] at hcs
        clear h1 h3 h4 hget HC4
        generalize (joinT t (k + 1)).length = m at *
        go_wp2_with fail
        refine (HRD.out w3 rfl).mono ?_
        rintro e w' ⟨rfl, rfl⟩
        go_wp2_with fail
        refine (HBT.out _).mono ?_
        rintro e w' ⟨rfl, rfl⟩
        go_wp2_with fail
        go_round
        case rel => exact ⟨k + 1, by omega, by go_num, by rw [HOF.out]; go_num⟩
        case measure => simp [intOf]; omega
      · clear h1 h3 HC4
        generalize (joinT t (k + 1)).length = m at *
        go_wp2_with fail
        refine (HRD.out w3 rfl).mono ?_
        rintro e w' ⟨rfl, rfl⟩
        go_wp2_with fail
        refine (HBT.out _).mono ?_
        rintro e w' ⟨rfl, rfl⟩
        go_wp2_with fail
        go_round
        case rel => exact ⟨k + 1, by omega, by go_num, by rw [HOF.out]; go_num⟩
        case measure => simp [intOf]; omega
    · obtain rfl : k = n := by omega
      go_wp2_with fail
      refine (awake_any _ HT3.out).mono ?_
      rintro e w4 ⟨rfl, hb4⟩
      have hfin := HB3.out.trans (hb4.mono HB3.out.size)
      clear hb4
      go_wp2
      go_ret
      exact ⟨rfl, hfin⟩
end Go.Proofs.YtopdkllbemgmlaaDoor
