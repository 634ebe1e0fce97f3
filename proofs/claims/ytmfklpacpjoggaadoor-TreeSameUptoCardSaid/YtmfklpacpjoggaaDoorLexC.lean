/- Walks of lex.GoodName, lex.Upper and of the reference's GoodName, In, Verbs. Conditions: as each theorem says. -/
import Derived.Test.YtmfklpacpjoggaaDoorLexB
namespace Go.Proofs.YtmfklpacpjoggaaDoor
open Go Go.RowKit Go.Proofs

/-- []rune of a string -/
theorem conv_str (s : ByteArray) (w : World) (hs : s.size ≤ 70368744177664) : ∃ cc w', (convert 9 23 (.string s)).run Tryd.prog w = .ok (.slice (some ⟨w.heap.size, 0, none⟩) (runesOf s).length cc) w' ∧
    Runes w' (.slice (some ⟨w.heap.size, 0, none⟩) (runesOf s).length cc) (runesOf s) ∧ Below w.heap.size w w' ∧ (runesOf s).length ≤ cc := by
  have h := run_runes_of_string (P := Tryd.prog) w 9 23 21 s Tryd.underlying9 Tryd.underlying23 Tryd.underlying21 (by rw [conv_runesOf]; have := runesOf_len s; simp; omega)
  rw [conv_runesOf] at h
  simp only [List.size_toArray, List.length_map] at h
  have hcap := grownCap_ge w (runesOf s).length 0 21
  refine ⟨_, _, h, ?_, ?_, by omega⟩
  · refine .inr ⟨w.heap.size, 0, _, _, rfl, rfl, fun i hi => ?_⟩
    rw [Nat.zero_add]
    show (w.drew.alloc _).cell? ⟨w.drew.heap.size, i, none⟩ = _
    rw [World.cell?_alloc_at _ _ _ _ rfl]
    rw [Array.getElem?_append_left (by simpa using hi)]
    simp [hi]
  · exact ((Below.refl _ w).drew).alloc (Nat.le_refl _) _

/-- does a name begin with a great letter? -/
def upB (s : ByteArray) : Bool := decide (∃ h : 0 < s.size, 65 ≤ (s[0]'h).toNat ∧ (s[0]'h).toNat ≤ 90)
theorem upB_nil {s : ByteArray} (h : s.size = 0) : upB s = false := decide_eq_false fun ⟨h1, _⟩ => by omega
theorem upB_eq {s : ByteArray} (h : 0 < s.size) : upB s = (decide (65 ≤ (s[0]'h).toNat) && decide ((s[0]'h).toNat ≤ 90)) := by
  unfold upB
  rw [Bool.eq_iff_iff]
  simp [h]

theorem upper_walk (s : ByteArray) (w : World) : Calls Tryd.prog 34 #[.string s] w fun e w' => e = .returned (.bool (upB s)) ∧ w = w' := by
  by_cases h : 0 < s.size
  · have HU := Lib.hid (upB_eq h)
    by_cases h1 : 65 ≤ (s[0]'h).toNat
    · by_cases h2 : (s[0]'h).toNat ≤ 90
      · have HT : Hid (upB s = true) := by unfold Hid; rw [HU.out, decide_eq_true h1, decide_eq_true h2]; rfl
        clear HU
        go_enter Tryd.func34, Tryd.ntmps34
        go_wp2
        go_ret
        exact ⟨by rw [HT.out]; show Ending.returned (Value.bool _) = _; refine congrArg (fun b => Ending.returned (Value.bool b)) ?_; simp; omega, rfl⟩
      · have HT : Hid (upB s = false) := by unfold Hid; rw [HU.out, decide_eq_false h2]; simp
        clear HU
        go_enter Tryd.func34, Tryd.ntmps34
        go_wp2
        go_ret
        exact ⟨by rw [HT.out]; show Ending.returned (Value.bool _) = _; refine congrArg (fun b => Ending.returned (Value.bool b)) ?_; simp; omega, rfl⟩
    · have HT : Hid (upB s = false) := by unfold Hid; rw [HU.out, decide_eq_false h1]; rfl
      clear HU
      go_enter Tryd.func34, Tryd.ntmps34
      go_wp2
      go_ret
      exact ⟨by rw [HT.out]; rfl, rfl⟩
  · have HU := Lib.hid (upB_nil (s := s) (by omega))
    go_enter Tryd.func34, Tryd.ntmps34
    go_wp2
    go_ret
    exact ⟨by rw [HU.out]; rfl, rfl⟩

/-- is a text a name? -/
def goodB (l : List Int) : Bool := decide (1 ≤ l.length) && decide (l.length ≤ 32) && letB (l.getD 0 0) && !l.any oddB

set_option maxRecDepth 100000 in
theorem good_walk (s : ByteArray) (w : World) (hs : s.size ≤ 70368744177664) : Calls Tryd.prog 33 #[.string s] w fun e w' => e = .returned (.bool (goodB (runesOf s))) ∧ Below w.heap.size w w' := by
  obtain ⟨cc, w1, hcv, hr, hb1, hcc⟩ := conv_str s w hs
  have hl := runesOf_len s
  have HO : Hid (∀ n A, Runes w1 (.slice A n cc) (runesOf s) → Calls Tryd.prog 31 #[.slice A n cc, .func (.func 52) #[] #[]] w1 fun e w' => e = .returned (.bool ((runesOf s).any oddB)) ∧ w1 = w') :=
    fun n A h => contains_walk _ _ w1 h (by omega) 52 oddB _ Tryd.func52 (by kernel_rfl) _ rfl odd_walk
  have HG : Hid (goodB (runesOf s) = (decide (1 ≤ (runesOf s).length) && decide ((runesOf s).length ≤ 32) && letB ((runesOf s).getD 0 0) && !(runesOf s).any oddB)) := rfl
  have HB1 := Lib.hid hb1
  generalize runesOf s = l at *
  have HR := Lib.hid hr
  obtain ⟨n, hn⟩ : ∃ n, n = l.length := ⟨_, rfl⟩
  rw [← hn] at hcv hcc
  have HR' : Hid (Runes w1 (.slice (some ⟨w.heap.size, 0, none⟩) n cc) l) := by unfold Hid; rw [hn]; exact hr
  have hn2 : n ≤ 70368744177664 := by omega
  have HN := Lib.hid hn
  have HC := Lib.hid hr.opn
  clear hr hb1 hn hcc hl hs HR
  by_cases h0 : n = 0
  · have HF : Hid (goodB l = false) := by unfold Hid; rw [HG.out]; simp; intro h; have := HN.out; omega
    subst h0
    go_enter Tryd.func33, Tryd.ntmps33
    go_wp2
    go_ret
    exact ⟨by rw [HF.out]; rfl, HB1.out⟩
  by_cases h32 : 32 < n
  · have HF : Hid (goodB l = false) := by unfold Hid; rw [HG.out]; simp; intro h h2; have := HN.out; omega
    have hnz : ((n : Int) == 0) = false := by simp; omega
    go_enter Tryd.func33, Tryd.ntmps33
    go_wp2
    go_ret
    exact ⟨by rw [HF.out]; rfl, HB1.out⟩
  have hpos : 0 < n := by omega
  have hnz : ((n : Int) == 0) = false := by simp; omega
  obtain ⟨A, c2, n2, e, hn3, hcell⟩ := HC.out
  obtain ⟨b, o, hA, hce⟩ := hcell 0 (by have := HN.out; omega)
  obtain ⟨rfl, rfl⟩ : w.heap.size = b ∧ 0 = o := by
    have h1 : some (⟨w.heap.size, 0, none⟩ : Addr) = A := by injection e
    rw [hA] at h1; simpa using h1
  have hc0 := hce _ (Below.refl _ _)
  clear hce hA hcell e hn3
  obtain ⟨x, hx⟩ : ∃ x, x = l.getD 0 0 := ⟨_, rfl⟩
  rw [← hx] at hc0
  have HX := Lib.hid hx
  clear hx
  cases hb : letB x with
  | false =>
    have HF : Hid (goodB l = false) := by unfold Hid; rw [HG.out, ← HX.out, hb]; simp
    have HLW : Hid (∀ w, Calls Tryd.prog 51 #[.int .i32 x] w fun e w' => e = .returned (.bool false) ∧ w = w') := by intro w; have := letter_walk x w; rwa [hb] at this
    clear hb
    go_enter Tryd.func33, Tryd.ntmps33
    go_wp2_with fail
    refine (HLW.out _).mono ?_
    rintro e w' ⟨rfl, rfl⟩
    go_wp2
    go_ret
    exact ⟨by rw [HF.out]; rfl, HB1.out⟩
  | true =>
    have HF : Hid (goodB l = !l.any oddB) := by
      unfold Hid; rw [HG.out, ← HX.out, hb, decide_eq_true (by have := HN.out; omega), decide_eq_true (by have := HN.out; omega)]; rfl
    have HLW : Hid (∀ w, Calls Tryd.prog 51 #[.int .i32 x] w fun e w' => e = .returned (.bool true) ∧ w = w') := by intro w; have := letter_walk x w; rwa [hb] at this
    clear hb
    go_enter Tryd.func33, Tryd.ntmps33
    go_wp2_with fail
    refine (HLW.out _).mono ?_
    rintro e w' ⟨rfl, rfl⟩
    go_wp2_with fail
    refine (HO.out _ _ HR'.out).mono ?_
    rintro e w' ⟨rfl, rfl⟩
    go_wp2
    go_ret
    exact ⟨by rw [HF.out]; rfl, HB1.out⟩

theorem getD_of {l : List Int} {i : Nat} (h : i < l.length) : l.getD i 0 = l[i] := by simp [List.getD, h]

/-- the signs of functions -/
def verbsL : List Int := [43, 45, 215, 247, 8968, 8970, 124, 42, 126, 61, 8800, 60, 8804, 8805, 62, 8743, 8744, 9074, 9073, 9076, 44, 9066, 9021, 8854, 9033, 8593, 8595, 9075, 9080, 8714, 8746, 8745, 9035, 9042, 8801, 8802, 8834, 8835, 8868, 8869, 8867, 8866]

theorem runes_lit (w : World) (l : List Int) : Runes (w.alloc (.cells (l.map (Value.int .i32)).toArray 21)) (.slice (some ⟨w.heap.size, 0, none⟩) l.length l.length) l := by
  refine .inr ⟨w.heap.size, 0, _, _, rfl, rfl, fun i hi => ?_⟩
  rw [Nat.zero_add, World.cell?_alloc_at _ _ _ _ rfl]
  simp [hi]

end Go.Proofs.YtmfklpacpjoggaaDoor
