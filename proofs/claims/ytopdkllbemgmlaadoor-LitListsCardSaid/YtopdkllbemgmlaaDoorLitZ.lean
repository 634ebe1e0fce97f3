/- The statement LitLists, from its walks. Conditions: the table of math/bits reads as its text lays it; the list takes no more than the form's reach. -/
import Derived.Test.YtopdkllbemgmlaaDoorLitY
namespace Go.Proofs.YtopdkllbemgmlaaDoor
open Go Go.RowKit Go.Proofs Fl

set_option maxRecDepth 100000 in
set_option maxHeartbeats 1600000 in
theorem litLists_zero (a0 : Option Addr) (c0 : Nat) (p : Nat → Bool × Nat) (w : World) (ht : TzTab w) :
    Calls Tryd.prog 7 #[.slice a0 0 c0] w fun e w' => e = .returned (.bool true) ∧ Below w.heap.size w w' := by
  have hp : NumsOk p (fun _ => []) 0 := ⟨fun _ h => by omega, fun _ h => by omega, fun _ h => by omega⟩
  have HP := Lib.hid hp
  have HTD := Lib.hid (tidyL_nil a0 c0 p w)
  have HT := Lib.hid ht
  clear ht hp
  go_enter Tryd.func7, Tryd.ntmps7
  go_wp2_with fail
  refine HTD.out.mono ?_
  rintro e w1 ⟨hb1, ⟨_, tv, rfl, hown⟩ | ⟨hlt, _⟩⟩
  case inr => exact absurd hlt (Nat.lt_irrefl _)
  have hfl : Floats w1 tv p 0 := hown.reads
  clear hown
  obtain ⟨a, c, htv⟩ := hfl.len
  rw [flist_len] at htv
  subst htv
  have HFL := Lib.hid hfl
  have HT1 := Lib.hid (HT.out.below hb1)
  clear hfl
  go_wp2_with fail
  refine (numbers_any HFL.out HP.out (by omega) HT1.out).mono ?_
  rintro e w2 ⟨sv, rfl, hs, hb2⟩
  obtain ⟨sa, sc, hsv⟩ := hs.len
  have hr := hs.runes
  have hj : joinT (fun _ => []) 0 = [] := rfl
  rw [hj] at hsv hr
  subst hsv
  have hb12 := hb1.trans (hb2.mono hb1.size)
  have hs1 : HeldU w w2.drew (.slice sa 0 sc) (.slice a 0 c) [] p 0 := ⟨hr, HT1.out.below hb2.drew, hb12.drew, HFL.out.below hb2.drew⟩
  have hcd : (convert 26 9 (.slice sa 0 sc)).run Tryd.prog w2.drew = .ok (.string (runesBytes [])) w2.drew := conv_runes (w := w2.drew) hr
  have HSR : Hid (∀ W, Floats W (.slice a 0 c) p 0 → Calls Tryd.prog 21 #[.slice a 0 c] W fun e w' => Texts W (runesBytes []) e w') :=
    fun W h => rnumbers_any h HP.out (by omega)
  generalize hSl : runesBytes [] = S at *
  have HSl := Lib.hid hSl.symm
  clear hSl hs hr hb12 hj hb1 hb2
  go_wp2_with fail
  go_region_held3 (fun W => (convert 26 9 (.slice sa 0 sc)).run Tryd.prog W = .ok (.string S) W ∧ HeldU w W (.slice sa 0 sc) (.slice a 0 c) [] p 0) (first | assumption | exact ⟨hcd, hs1⟩) (first | (go_at_call 21; refine (HSR.out _ (‹_ ∧ HeldU _ _ _ _ _ _ _›).2.2.2.2).mono ?_; rintro e w3 ⟨rfl, hb3⟩; have hs3 := HeldU.step HSl.out (by assumption) hb3))
  obtain ⟨_, hr3, ht3, hb3', hf3⟩ := hs3
  have HT3 := Lib.hid ht3
  have HB3 := Lib.hid hb3'
  clear hr3 ht3 hb3' hf3 hb3 hs1 hcd
  go_wp2
  refine wp_loop_rounds 1 ?_
  rw [rounds_succ]
  go_wp2_with fail
  refine (awake_any _ HT3.out).mono ?_
  rintro e w4 ⟨rfl, hb4⟩
  have hfin := HB3.out.trans (hb4.mono HB3.out.size)
  clear hb4
  go_wp2
  go_ret
  exact ⟨rfl, hfin⟩

set_option maxRecDepth 100000 in
set_option maxHeartbeats 800000 in
theorem litLists_bad (a0 : Option Addr) (n c0 K : Nat) (p : Nat → Bool × Nat) (hK : K < n) (w : World) (ht : TzTab w)
    (htd : Calls Tryd.prog 19 #[.slice a0 n c0] w fun e w' => TidyL w p n K e w') :
    Calls Tryd.prog 7 #[.slice a0 n c0] w fun e w' => e = .returned (.bool true) ∧ Below w.heap.size w w' := by
  have HTD := Lib.hid htd
  have HT := Lib.hid ht
  have HK := Lib.hid hK
  clear htd ht hK
  go_enter Tryd.func7, Tryd.ntmps7
  go_wp2_with fail
  refine HTD.out.mono ?_
  rintro e w1 ⟨hb1, ⟨hKn, _⟩ | ⟨_, rfl⟩⟩
  · exact absurd HK.out (by omega)
  have HT1 := Lib.hid (HT.out.below hb1)
  have HB1 := Lib.hid hb1
  clear hb1
  go_wp2_with fail
  refine (awake_any _ HT1.out).mono ?_
  rintro e w4 ⟨rfl, hb4⟩
  have hfin := HB1.out.trans (hb4.mono HB1.out.size)
  clear hb4
  go_wp2
  go_ret
  exact ⟨rfl, hfin⟩

set_option maxRecDepth 100000 in
set_option maxHeartbeats 800000 in
theorem litLists_long (a0 : Option Addr) (n c0 : Nat) (p : Nat → Bool × Nat) (h60 : 60 < n) (w : World) (ht : TzTab w)
    (htd : Calls Tryd.prog 19 #[.slice a0 n c0] w fun e w' => TidyL w p n n e w') :
    Calls Tryd.prog 7 #[.slice a0 n c0] w fun e w' => e = .returned (.bool true) ∧ Below w.heap.size w w' := by
  have HTD := Lib.hid htd
  have HT := Lib.hid ht
  clear htd ht
  go_enter Tryd.func7, Tryd.ntmps7
  go_wp2_with fail
  refine HTD.out.mono ?_
  rintro e w1 ⟨hb1, ⟨_, tv, rfl, _⟩ | ⟨hlt, _⟩⟩
  case inr => exact absurd hlt (Nat.lt_irrefl _)
  have HT1 := Lib.hid (HT.out.below hb1)
  have HB1 := Lib.hid hb1
  clear hb1
  go_wp2_with fail
  refine (awake_any _ HT1.out).mono ?_
  rintro e w4 ⟨rfl, hb4⟩
  have hfin := HB1.out.trans (hb4.mono HB1.out.size)
  clear hb4
  go_wp2
  go_ret
  exact ⟨rfl, hfin⟩

/-- a list of float words in memory -/
def FWords (w : World) (v : Value) (bs : List Nat) : Prop :=
  (v = .slice none 0 0 ∧ bs = []) ∨ (∃ b o n c, v = .slice (some ⟨b, o, none⟩) n c ∧ n = bs.length ∧ ∀ i (h : i < bs.length), w.cell? ⟨b, o + i, none⟩ = some (.float .f64 bs[i])) ∨ (∃ a c, v = .slice a 0 c ∧ bs = [])

theorem litLists_any {w : World} {v : Value} {bs : List Nat} (h : FWords w v bs) (hwf : ∀ b ∈ bs, b < 18446744073709551616) (hreach : bs.length * 8 ≤ 140737488351232) (ht : TzTab w) :
    Calls Tryd.prog 7 #[v] w fun e w' => e = .returned (.bool true) ∧ Below w.heap.size w w' := by
  rcases h with ⟨rfl, rfl⟩ | ⟨b, o, n, c, rfl, hn, hc⟩ | ⟨a, c, rfl, rfl⟩
  · exact litLists_zero none 0 (fun _ => (false, 0)) w ht
  · by_cases h0 : n = 0
    · subst h0; exact litLists_zero _ c (fun _ => (false, 0)) w ht
    -- the first number that is none, if there is one
    by_cases hall : ∀ i (h : i < bs.length), ∃ q, TOk bs[i] q
    · have hall' : ∀ i, ∃ q, ∀ (h : i < bs.length), TOk bs[i] q := fun i => by
        by_cases h : i < bs.length
        · obtain ⟨q, hq⟩ := hall i h; exact ⟨q, fun _ => hq⟩
        · exact ⟨(false, 0), fun h' => absurd h' h⟩
      obtain ⟨p, hp⟩ := Classical.axiomOfChoice hall'
      have htd := tidyL_walk b o c n bs p n hn (Nat.le_refl _) w (by omega) hc (fun i h _ => hp i h) (fun h => by omega)
      by_cases h60 : 60 < n
      · exact litLists_long _ n c p h60 w ht htd
      · have hwr : ∀ i, ∃ t, i < n → WrIs (p i).1 (p i).2 t := fun i => by
          by_cases h : i < n
          · obtain ⟨t, ht⟩ := wr_ex (p i).1 (hp i (by omega)).1; exact ⟨t, fun _ => ht⟩
          · exact ⟨[], fun h' => absurd h' h⟩
        obtain ⟨t, htt⟩ := Classical.axiomOfChoice hwr
        exact litLists_core _ n c p t ⟨fun i h => (hp i (by omega)).1, fun i h => (hp i (by omega)).2.1, htt⟩ (by omega) (by omega) w ht htd
    · have hbad : ∃ K, ∃ (h : K < bs.length), TBad bs[K] := by
        refine Classical.byContradiction fun hno => hall fun i h => ?_
        rcases tidy_cases bs[i] (hwf _ (List.getElem_mem h)) with hq | hb
        · exact hq
        · exact absurd ⟨i, h, hb⟩ hno
      -- the least one
      have key : ∀ m, (∀ i (h : i < bs.length), i < m → ∃ q, TOk bs[i] q) ∨ ∃ K, ∃ (h : K < bs.length), TBad bs[K] ∧ K < m ∧ ∀ i (h : i < bs.length), i < K → ∃ q, TOk bs[i] q := by
        intro m
        induction m with
        | zero => exact .inl fun i _ h => by omega
        | succ m ih =>
          rcases ih with ih | ⟨K, hK, hb, hm, hk⟩
          · by_cases hlt : m < bs.length
            · rcases tidy_cases bs[m] (hwf _ (List.getElem_mem hlt)) with hq | hb
              · left
                intro i h hi
                by_cases e : i = m
                · subst e; exact hq
                · exact ih i h (by omega)
              · exact .inr ⟨m, hlt, hb, by omega, ih⟩
            · left
              intro i h hi
              exact ih i h (by omega)
          · exact .inr ⟨K, hK, hb, by omega, hk⟩
      rcases key bs.length with hk | ⟨K, hK, hb, hm, hk⟩
      · exact absurd (fun i h => hk i h h) hall
      · have hall' : ∀ i, ∃ q, ∀ (h : i < bs.length), i < K → TOk bs[i] q := fun i => by
          by_cases h : i < bs.length
          · by_cases h' : i < K
            · obtain ⟨q, hq⟩ := hk i h h'; exact ⟨q, fun _ _ => hq⟩
            · exact ⟨(false, 0), fun _ h'' => absurd h'' h'⟩
          · exact ⟨(false, 0), fun h' => absurd h' h⟩
        obtain ⟨p, hp⟩ := Classical.axiomOfChoice hall'
        have htd := tidyL_walk b o c n bs p K hn (by omega) w (by omega) hc hp (fun _ => hb)
        exact litLists_bad _ n c K p (by omega) w ht htd
  · exact litLists_zero a c (fun _ => (false, 0)) w ht
end Go.Proofs.YtopdkllbemgmlaaDoor
