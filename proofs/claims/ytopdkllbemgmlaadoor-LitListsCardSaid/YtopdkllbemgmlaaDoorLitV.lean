/- The walk of the reference's Tidy of lists. Conditions: the list takes no more than the form's reach. -/
import Derived.Test.YtopdkllbemgmlaaDoorVal
import Derived.Test.YtopdkllbemgmlaaDoorLitS
namespace Go.Proofs.YtopdkllbemgmlaaDoor
open Go Go.RowKit Go.Proofs Fl

/-- Tidy tells this number of it -/
def TOk (b : Nat) (p : Bool × Nat) : Prop := Rep p.2 ∧ (p.2 = 0 → p.1 = false) ∧
  ∀ w, Calls Tryd.prog 8 #[.float .f64 b] w fun e w' => e = .returned (.tuple #[.float .f64 (W p.1 p.2), .bool true]) ∧ w = w'
/-- Tidy tells that it is none -/
def TBad (b : Nat) : Prop := ∀ w, Calls Tryd.prog 8 #[.float .f64 b] w fun e w' => e = .returned (.tuple #[.float .f64 0, .bool false]) ∧ w = w'

theorem tidy_cases (b : Nat) (h : b < 18446744073709551616) : (∃ p, TOk b p) ∨ TBad b := by
  rcases classify b h with ⟨s, Z, hz, rfl⟩ | h
  · obtain ⟨s', h1, h2⟩ := tidy_ex s hz
    exact .inl ⟨(s', Z), hz, h1, h2⟩
  · exact .inr (rtidy_bad h)

def fl (p : Bool × Nat) : Value := .float .f64 (W p.1 p.2)
/-- the first k of a list of numbers -/
def flist (p : Nat → Bool × Nat) (k : Nat) : List Value := (List.range k).map fun i => fl (p i)
theorem flist_succ (p : Nat → Bool × Nat) (k : Nat) : flist p (k + 1) = flist p k ++ [fl (p k)] := by unfold flist; rw [List.range_succ, List.map_append]; rfl
theorem flist_len (p : Nat → Bool × Nat) (k : Nat) : (flist p k).length = k := by simp [flist]
theorem flist_get (p : Nat → Bool × Nat) (k i : Nat) (h : i < (flist p k).length) : (flist p k)[i] = fl (p i) := by simp [flist]

theorem info_f64 : (Tryd.prog.info? 22).map (fun i => (i.zero, i.size, i.bytes)) = some (some (.float .f64 0), 1, 8) := by kernel_rfl

/-- what the lists' Tidy tells, where the first number that is none stands at place K -/
def TidyL (w0 : World) (p : Nat → Bool × Nat) (n K : Nat) (e : Ending) (w' : World) : Prop :=
  Below w0.heap.size w0 w' ∧
  ((K = n ∧ ∃ v, e = .returned (.tuple #[v, .bool true]) ∧ Own1 w' w0.heap.size 22 v (flist p n)) ∨ (K < n ∧ e = .returned (.tuple #[.slice none 0 0, .bool false])))

set_option maxRecDepth 100000 in
set_option maxHeartbeats 1000000 in
theorem tidyL_walk (b o c n : Nat) (bs : List Nat) (p : Nat → Bool × Nat) (K : Nat) (hn : n = bs.length) (hK : K ≤ n) (w : World) (hreach : n * 8 ≤ 140737488351232)
    (hc : ∀ i (h : i < bs.length), w.cell? ⟨b, o + i, none⟩ = some (.float .f64 bs[i]))
    (hok : ∀ i (h : i < bs.length), i < K → TOk bs[i] (p i)) (hbad : ∀ (h : K < bs.length), TBad bs[K]) :
    Calls Tryd.prog 19 #[.slice (some ⟨b, o, none⟩) n c] w fun e w' => TidyL w p n K e w' := by
  have hcw : ∀ wr, Below w.heap.size w wr → ∀ i (h : i < bs.length), wr.cell? ⟨b, o + i, none⟩ = some (.float .f64 bs[i]) := by
    intro wr hb i h
    rw [hb.cell (cell_lt (hc i h))]; exact hc i h
  have HC := Lib.hid hcw
  have HOK := Lib.hid hok
  have HBAD := Lib.hid hbad
  have HN := Lib.hid hn
  obtain ⟨B, hB⟩ : ∃ B, B = w.heap.size := ⟨_, rfl⟩
  have HB := Lib.hid hB
  have HS : Hid (∀ e w', TidyL w p n K e w' = (Below B w w' ∧ ((K = n ∧ ∃ v, e = .returned (.tuple #[v, .bool true]) ∧ Own1 w' B 22 v (flist p n)) ∨ (K < n ∧ e = .returned (.tuple #[.slice none 0 0, .bool false]))))) := by rw [hB]; exact fun _ _ => rfl
  clear hc hok hbad hcw hn hB
  go_enter Tryd.func19, Tryd.ntmps19
  go_wp2
  go_loopw [4, 5] (fun v i wr => ∃ k : Nat, k ≤ K ∧ i = .int .i64 k ∧ Own1 wr B 22 v (flist p k) ∧ Below B w wr) (fun _ i _ => n - (intOf i).toNat)
  case atStart => exact ⟨0, Nat.zero_le _, rfl, Own1.nil w B _, Below.refl B w⟩
  case round =>
    obtain ⟨k, hk, rfl, hown, hbl⟩ := hrel
    have HOWN := Lib.hid hown
    have hBw : B ≤ wr.heap.size := by rw [HB.out]; exact hbl.size
    clear hown
    by_cases hlt : k < n
    · have hlt' : k < bs.length := by rw [← HN.out]; exact hlt
      have hcell := HC.out wr (by rw [← HB.out]; exact hbl) k hlt'
      by_cases hkK : k < K
      · obtain ⟨h1, h2, h3⟩ := HOK.out k hlt' hkK
        have HT := Lib.hid h3
        have HF := Lib.hid (flist_succ p k)
        have hfl : ((flist p k).length + 1) * 8 ≤ 140737488355328 := by rw [flist_len]; omega
        have hfl2 : (flist p k).length + 1 ≤ 140737488355328 := by rw [flist_len]; omega
        have HFL := Lib.hid hfl
        have HFL2 := Lib.hid hfl2
        clear h1 h2 h3 hfl hfl2
        have hfp : Hid (fl (p k) = .float .f64 (W (p k).1 (p k).2)) := rfl
        generalize W (p k).1 (p k).2 = y at *
        generalize bs[k] = x at *
        go_wp2_with fail
        refine (HT.out _).mono ?_
        rintro e w' ⟨rfl, rfl⟩
        go_wp2_with (at_builtin; refine wpList_push1 rfl (.tmp 24) (.tmp 26) 38 22 rfl Tryd.underlying38 (.float .f64 0) 8 info_f64 rfl B _ (flist p k) rfl HOWN.out (.float .f64 y) rfl rfl HFL.out HFL2.out hBw ?_; intro v' w1 hv' hb' hk' hs'; rw [← hfp.out, ← HF.out] at hv'; have HV := Lib.hid hv'; have HB' := Lib.hid (hb' w hbl); clear hb' hk' hv')
        go_roundw
        case rel => exact ⟨k + 1, by omega, by go_num, HV.out, HB'.out⟩
        case measure => simp [intOf]; omega
      · obtain rfl : k = K := by omega
        have HT := Lib.hid (HBAD.out hlt')
        generalize bs[k] = x at *
        go_wp2_with fail
        refine (HT.out _).mono ?_
        rintro e w' ⟨rfl, rfl⟩
        go_wp2_with fail
        go_ret2
        rw [HS.out]
        exact ⟨hbl, .inr ⟨hlt, rfl⟩⟩
    · obtain rfl : k = n := by omega
      obtain rfl : K = k := by omega
      go_wp2
      go_ret2
      rw [HS.out]
      exact ⟨hbl, .inl ⟨by first | trivial | rfl, _, rfl, HOWN.out⟩⟩

set_option maxHeartbeats 400000 in
theorem tidyL_nil (a : Option Addr) (c : Nat) (p : Nat → Bool × Nat) (w : World) :
    Calls Tryd.prog 19 #[.slice a 0 c] w fun e w' => TidyL w p 0 0 e w' := by
  go_enter Tryd.func19, Tryd.ntmps19
  go_wp2
  refine wp_loop_rounds 1 ?_
  rw [rounds_succ]
  go_wp2
  go_ret2
  exact ⟨Below.refl _ _, .inl ⟨rfl, _, rfl, Own1.nil _ _ _⟩⟩
end Go.Proofs.YtopdkllbemgmlaaDoor
