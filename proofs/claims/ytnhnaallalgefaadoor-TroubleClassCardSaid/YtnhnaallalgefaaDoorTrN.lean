/- The walks of trouble.Show and of the reference's Show. Conditions: as each theorem says. -/
import Derived.Test.YtnhnaallalgefaaDoorTrM
import Derived.Test.YtnhnaallalgefaaDoorSho
import Derived.Deep.DeepCutAuto
import Derived.Deep.CutBlock
namespace Go.Proofs.YtnhnaallalgefaaDoor
open Go Go.RowKit Go.Proofs

theorem Runes.open_ {w : World} {v : Value} {l : List Int} (h : Runes w v l) : ∃ A cc n, v = .slice A n cc ∧ n = l.length ∧
    ∀ i, i < l.length → ∃ b o, A = some ⟨b, o, none⟩ ∧ ∀ w1, Below w.heap.size w w1 → w1.cell? ⟨b, o + i, none⟩ = some (.int .i32 (l.getD i 0)) := by
  rcases h with ⟨a, c, rfl, rfl⟩ | ⟨b, o, n, c, rfl, hn, hc⟩
  · exact ⟨a, c, 0, rfl, rfl, fun i hi => by simp at hi⟩
  · refine ⟨_, c, n, rfl, hn, fun i hi => ⟨b, o, rfl, fun w1 hb => ?_⟩⟩
    have := hc i hi
    rw [hb.cell (cell_lt this), this]
    simp [List.getD, hi]

theorem conv_runes1 {w : World} {v : Value} {l : List Int} (h : Runes w v l) :
    (convert 26 9 v).run Tryd.prog w = .ok (.string (runesBytes l)) w := by
  rcases h with ⟨a, c, rfl, rfl⟩ | ⟨b, o, n, c, rfl, hn, hc⟩
  · rw [run_convert_runes_string (P := Tryd.prog) w 26 9 21 _ _ _ Tryd.underlying26 Tryd.underlying21 Tryd.underlying9]
    cases a with
    | none => rfl
    | some a => exact run_runesToString w a 0 c [] (by simp [go_sem, loadCells, loadCellsFrom])
  · have := run_convert_runes (P := Tryd.prog) w 26 9 21 ⟨b, o, none⟩ n c l (by omega) Tryd.underlying26 Tryd.underlying21 Tryd.underlying9 (by
      intro j hj
      have e : (⟨b, o, none⟩ : Addr).add j = ⟨b, o + j, none⟩ := by
        unfold Addr.add; split
        · rename_i h0; subst h0; rfl
        · rfl
      rw [e, hc j hj]
      simp [List.getD, hj])
    rw [this, List.take_of_length_le (by omega)]

/-- a part of a slice -/
theorem Runes.cut {w : World} {A : Option Addr} {n cc : Nat} {l : List Int} (h : Runes w (.slice A n cc) l) (hcc : n ≤ cc) {f t : Nat} (hf : f ≤ t) (ht : t ≤ l.length) :
    Runes w (sliced A f t cc 1) ((l.take t).drop f) := by
  unfold sliced
  rcases h with ⟨a, c, e, rfl⟩ | ⟨b, o, n', c, e, hn, hc⟩
  · left
    simp at ht
    subst ht
    exact ⟨_, _, by rw [Nat.zero_sub], by simp⟩
  · obtain ⟨rfl, rfl, rfl⟩ : A = some ⟨b, o, none⟩ ∧ n = n' ∧ cc = c := by simpa using e
    by_cases hft : f = t
    · subst hft
      left
      exact ⟨_, _, by rw [Nat.sub_self], List.drop_eq_nil_of_le (by simp; omega)⟩
    · right
      have hne : cc ≠ f := by omega
      refine ⟨b, o + f, t - f, cc - f, ?_, by simp; omega, fun i hi => ?_⟩
      · rw [if_neg hne]
        simp [Addr.add]
      · have hi2 : i < t - f := by simp at hi; omega
        have := hc (f + i) (by omega)
        rw [Nat.add_assoc, this]
        simp

theorem seg_word (c : Int) (l : List Int) (f t : Nat) (h : l.length ≤ 4096) : (word c).size ≤ 12 ∧ (seg l f t).size ≤ 16384 := ⟨word_size c, by have := seg_size l f t; omega⟩

set_option maxRecDepth 100000 in
set_option maxHeartbeats 1600000 in
theorem show_line (c : Int) (hc : c ≠ 0) (p : Nat) (v : Value) (A : Option Addr) (n cc : Nat) (l : List Int) (w : World) (hr : Runes w (.slice A n cc) l) (hcc : n ≤ cc) (hl : l.length ≤ 4096) (hp : p ≤ l.length)
    (hof : ∀ w', Below w.heap.size w w' → Calls Tryd.prog 33 #[v] w' fun e w2 => e = .returned (.int .i64 c) ∧ Below w'.heap.size w' w2)
    (hat : ∀ w', Below w.heap.size w w' → Calls Tryd.prog 34 #[v] w' fun e w2 => e = .returned (.int .i64 (p : Int)) ∧ Below w'.heap.size w' w2) :
    Calls Tryd.prog 30 #[v, .slice A n cc] w fun e w' => e = .returned (.string (showS (word c) p l)) ∧ Below w.heap.size w w' := by
  have HS : Hid (showS (word c) p l = ((((word c ++ ⟨#[10]⟩) ++ (seg l (lineFrom l p) (lineTo l p))) ++ ⟨#[10]⟩) ++ sp (p - lineFrom l p)) ++ ⟨#[94, 10]⟩) := by
    unfold Hid showS; rw [if_neg (by omega)]; rfl
  have hF := lineFrom_le l p
  have hT1 := lineTo_ge l p
  have hT2 := lineTo_le hp
  obtain ⟨A', cc', n', hv', hn, hcell⟩ := hr.open_
  obtain ⟨rfl, rfl, rfl⟩ : A = A' ∧ n = n' ∧ cc = cc' := by simpa using hv'
  have HN := Lib.hid hn
  have HOF := Lib.hid hof
  have HAT := Lib.hid hat
  have HR := Lib.hid hr
  have HC := Lib.hid hcell
  obtain ⟨hW, hSg⟩ := seg_word c l (lineFrom l p) (lineTo l p) hl
  have hpn : p ≤ n := by omega
  have hn4 : n ≤ 4096 := by omega
  have HLF : Hid (∀ k, lineFrom l (k + 1) = if l.getD k 0 = 10 then k + 1 else lineFrom l k) := fun k => rfl
  have hcz : (c == 0) = false := by simpa using hc
  clear hv' hn hof hat hr hcell
  generalize hSn : word c = S at *
  have HSN := Lib.hid hSn
  clear hSn
  go_enter Tryd.func30, Tryd.ntmps30
  go_wp2_with fail
  refine (HOF.out _ (Below.refl _ _)).mono ?_
  rintro e w1 ⟨rfl, hb1⟩
  have HB1 := Lib.hid hb1
  clear hb1
  go_wp2_with fail
  refine (word_walk c _).mono ?_
  rintro e w' ⟨rfl, rfl⟩
  rw [HSN.out]
  have a1 := fun w => run_string_add_sum (P := Tryd.prog) w S ⟨#[10]⟩ (by rw [size_nl]; omega)
  go_wp2_with fail
  refine (HAT.out _ HB1.out).mono ?_
  rintro e w2 ⟨rfl, hb2⟩
  have HB2 : Hid (Below w.heap.size w w2) := HB1.out.trans (hb2.mono HB1.out.size)
  clear hb2 HB1
  obtain ⟨VS, hVS⟩ : ∃ VS, VS = sliced A (lineFrom l p) (lineTo l p) cc 1 := ⟨_, rfl⟩
  have hcv : (convert 26 9 VS).run Tryd.prog w2 = .ok (.string (seg l (lineFrom l p) (lineTo l p))) w2 := by
    rw [hVS]; exact conv_runes1 ((HR.out.below HB2.out).cut hcc (by omega) (by omega))
  have HVS := Lib.hid hVS
  clear hVS
  generalize hGn : seg l (lineFrom l p) (lineTo l p) = G at *
  clear hGn
  have a2 := fun w => run_string_add_sum (P := Tryd.prog) w G ⟨#[10]⟩ (by rw [size_nl]; omega)
  have a3 := fun w => run_string_add_sum (P := Tryd.prog) w (S ++ ⟨#[10]⟩) (G ++ ⟨#[10]⟩) (by rw [ByteArray.size_append, ByteArray.size_append, size_nl]; omega)
  have HLN : Hid (∀ k, l.getD k 0 = 10 → lineFrom l (k + 1) = k + 1) := fun k h => lineFrom_nl h
  have HLO : Hid (∀ k, ¬ l.getD k 0 = 10 → lineFrom l (k + 1) = lineFrom l k) := fun k h => lineFrom_no h
  have HTE : Hid (∀ k, l.length ≤ k → lineTo l k = k) := fun k h => lineTo_end h
  have HTN : Hid (∀ k, k < l.length → l.getD k 0 = 10 → lineTo l k = k) := fun k h h2 => lineTo_nl h h2
  have HTO : Hid (∀ k, k < l.length → ¬ l.getD k 0 = 10 → lineTo l (k + 1) = lineTo l k) := fun k h h2 => lineTo_no h h2
  generalize hfn : lineFrom l p = F at *
  have HFN := Lib.hid hfn
  clear hfn
  generalize htn : lineTo l p = T at *
  have HTL := Lib.hid htn
  clear htn
  have HA3 := Lib.hid a3
  have HA2 := Lib.hid a2
  have HCV := Lib.hid hcv
  have hFn := hF
  clear a1 a2 a3 hcv HLF
  have hFp : Hid (∀ k, k = F → Value.int .i64 (k : Int) = .int .i64 (F : Int)) := fun k h => by rw [h]
  go_upto_block 0 with (fail)
  go_cut [8] from 10 (fun f wx => f = .int .i64 (F : Int) ∧ wx = w2)
  case first =>
    go_wp2_with fail
    go_loop [8] (fun f => ∃ k : Nat, k ≤ p ∧ f = .int .i64 (k : Int) ∧ Hid (lineFrom l k = F)) (fun f => (intOf f).toNat)
    case atStart => exact ⟨p, Nat.le_refl _, rfl, HFN.out⟩
    case round =>
      obtain ⟨k, hk, rfl, hkF⟩ := hrel
      by_cases h0 : k = 0
      · subst h0
        go_wp2
        go_meet
        exact ⟨hFp.out 0 hkF.out, rfl⟩
      · obtain ⟨j, rfl⟩ : ∃ j, k = j + 1 := ⟨k - 1, by omega⟩
        have hj : j < l.length := by have := HN.out; omega
        obtain ⟨b, o, rfl, hce⟩ := HC.out j hj
        have hce2 := hce _ HB2.out
        clear hce
        by_cases h10 : l.getD j 0 = 10
        · rw [h10] at hce2
          have HE : Hid (j + 1 = F) := (HLN.out j h10).symm.trans hkF.out
          clear h10 hkF
          go_wp2
          go_meet
          exact ⟨hFp.out _ HE.out, rfl⟩
        · have HK : Hid (lineFrom l j = F) := (HLO.out j h10).symm.trans hkF.out
          have h11 : (l.getD j 0 != 10) = true := by simpa using h10
          clear hkF
          generalize l.getD j 0 = x at *
          go_wp2
          go_round
          case rel => exact ⟨j, by omega, by go_num, HK⟩
          case measure => simp [intOf]
  case rest =>
    obtain ⟨rfl, rfl⟩ := hcut
    have hTp : Hid (∀ k, k = T → Value.int .i64 (k : Int) = .int .i64 (T : Int)) := fun k h => by rw [h]
    go_upto_block 2 with fail
    go_cut [9] from 10 (fun f wx => f = .int .i64 (T : Int) ∧ wx = wc)
    case first =>
      go_wp2_with fail
      go_loop [9] (fun f => ∃ k : Nat, k ≤ n ∧ f = .int .i64 (k : Int) ∧ Hid (lineTo l k = T)) (fun f => n - (intOf f).toNat)
      case atStart => exact ⟨p, hpn, rfl, HTL.out⟩
      case round =>
        obtain ⟨k, hk, rfl, hkF⟩ := hrel
        by_cases h0 : n ≤ k
        · have HE : Hid (k = T) := (HTE.out k (by have := HN.out; omega)).symm.trans hkF.out
          clear hkF
          go_wp2
          go_meet
          exact ⟨hTp.out k HE.out, rfl⟩
        · have hk2 : k < n := by omega
          have hj : k < l.length := by have := HN.out; omega
          obtain ⟨b, o, rfl, hce⟩ := HC.out k hj
          have hce2 := hce _ HB2.out
          clear hce
          by_cases h10 : l.getD k 0 = 10
          · rw [h10] at hce2
            have HE : Hid (k = T) := (HTN.out k hj h10).symm.trans hkF.out
            clear h10 hkF
            go_wp2
            go_meet
            exact ⟨hTp.out _ HE.out, rfl⟩
          · have HK : Hid (lineTo l (k + 1) = T) := (HTO.out k hj h10).trans hkF.out
            have h11 : (l.getD k 0 != 10) = true := by simpa using h10
            clear hkF
            generalize l.getD k 0 = x at *
            go_wp2
            go_round
            case rel => exact ⟨k + 1, by omega, by go_num, HK⟩
            case measure => simp [intOf]; omega
    case rest =>
      obtain ⟨rfl, rfl⟩ := hcut
      have hsl : ∀ w, (Instr.slice 26 (.slice A n cc) (some (.int .i64 (F : Int))) (some (.int .i64 (T : Int))) none).run Tryd.prog w = .ok VS w := by
        intro w
        rw [HVS.out]
        have := run_slice_lh (P := Tryd.prog) (w := w) 26 A n cc Tryd.underlying26 .i64 .i64 (F : Int) (T : Int) (by omega) (by omega) (by have := HN.out; omega)
        rw [this]
        have h1 : (sizeOf (Tryd.prog.elem 26)).run Tryd.prog w = .ok 1 w := by kernel_rfl
        rw [h1]
        simp only [Result.andThen, Int.toNat_natCast]
      have hcv := HCV.out
      have a2 := HA2.out
      have a3 := HA3.out
      have HSP : Hid (∀ (X : ByteArray) k, (X ++ sp k) ++ ⟨#[32]⟩ = X ++ sp (k + 1)) := fun X k => by rw [ByteArray.append_assoc]; rfl
      have hsz : (S ++ ⟨#[10]⟩ ++ (G ++ ⟨#[10]⟩)).size ≤ 20000 := by simp only [ByteArray.size_append, size_nl]; omega
      have HX0 : Hid (S ++ ⟨#[10]⟩ ++ (G ++ ⟨#[10]⟩) = (S ++ ⟨#[10]⟩ ++ (G ++ ⟨#[10]⟩)) ++ sp 0) := by unfold Hid; rw [sp]; exact ByteArray.append_empty.symm
      have HXS : Hid (S ++ ⟨#[10]⟩ ++ (G ++ ⟨#[10]⟩) = ((S ++ ⟨#[10]⟩) ++ G) ++ ⟨#[10]⟩) := by unfold Hid; rw [ByteArray.append_assoc, ByteArray.append_assoc, ByteArray.append_assoc]
      go_wp2
      generalize S ++ ⟨#[10]⟩ ++ (G ++ ⟨#[10]⟩) = X at *
      go_loop [6, 71] (fun s i => ∃ k : Nat, k ≤ p - F ∧ i = .int .i64 (k : Int) ∧ s = .string (X ++ sp k)) (fun _ i => p - (intOf i).toNat)
      case atStart => exact ⟨0, Nat.zero_le _, rfl, by rw [← HX0.out]⟩
      case round =>
        obtain ⟨k, hk, rfl, rfl⟩ := hrel
        have hks := sp_size k
        by_cases h0 : k < p - F
        · have a4 := fun w => run_string_add_sum (P := Tryd.prog) w (X ++ sp k) ⟨#[32]⟩ (by rw [ByteArray.size_append, size_bl]; omega)
          have hlt : (k : Int) < (p : Int) - (F : Int) := by omega
          clear hks
          go_wp2
          go_round
          case rel => exact ⟨k + 1, by omega, by go_num, by rw [HSP.out]⟩
          case measure => simp [intOf]; omega
        · have a4 := fun w => run_string_add_sum (P := Tryd.prog) w (X ++ sp k) ⟨#[94, 10]⟩ (by rw [ByteArray.size_append, size_ca]; omega)
          have HE : Hid (k = p - F) := by unfold Hid; omega
          have hlt : ¬ (k : Int) < (p : Int) - (F : Int) := by omega
          clear hks
          go_wp2
          go_ret
          exact ⟨by rw [HS.out, HE.out, HXS.out]; rfl, HB2.out⟩

set_option maxRecDepth 100000 in
set_option maxHeartbeats 1600000 in
theorem show_off (c a : Int) (hc : c ≠ 0) (v : Value) (A : Option Addr) (n cc : Nat) (l : List Int) (w : World) (hn : n = l.length) (hl : l.length ≤ 35184372088832)
    (hp : a < 0 ∨ (l.length : Int) < a ∨ 4096 < l.length)
    (hof : ∀ w', Below w.heap.size w w' → Calls Tryd.prog 33 #[v] w' fun e w2 => e = .returned (.int .i64 c) ∧ Below w'.heap.size w' w2)
    (hat : ∀ w', Below w.heap.size w w' → Calls Tryd.prog 34 #[v] w' fun e w2 => e = .returned (.int .i64 a) ∧ Below w'.heap.size w' w2) :
    Calls Tryd.prog 30 #[v, .slice A n cc] w fun e w' => e = .returned (.string (showS (word c) a l)) ∧ Below w.heap.size w w' := by
  have HS : Hid (showS (word c) a l = word c ++ ⟨#[10]⟩) := by
    unfold Hid showS; rw [if_pos hp]
  have hp' : a < 0 ∨ (n : Int) < a ∨ 4096 < n := by rw [hn]; exact hp
  have hl' : n ≤ 35184372088832 := by omega
  have HOF := Lib.hid hof
  have HAT := Lib.hid hat
  have hW := word_size c
  have hcz : (c == 0) = false := by simpa using hc
  clear hn hof hat hl hp
  have HP := Lib.hid hp'
  clear hp'
  generalize hSn : word c = S at *
  have HSN := Lib.hid hSn
  clear hSn
  go_enter Tryd.func30, Tryd.ntmps30
  go_wp2_with fail
  refine (HOF.out _ (Below.refl _ _)).mono ?_
  rintro e w1 ⟨rfl, hb1⟩
  have HB1 := Lib.hid hb1
  clear hb1
  go_wp2_with fail
  refine (word_walk c _).mono ?_
  rintro e w' ⟨rfl, rfl⟩
  rw [HSN.out]
  have a1 := fun w => run_string_add_sum (P := Tryd.prog) w S ⟨#[10]⟩ (by rw [size_nl]; omega)
  go_wp2_with fail
  refine (HAT.out _ HB1.out).mono ?_
  rintro e w2 ⟨rfl, hb2⟩
  have HB2 : Hid (Below w.heap.size w w2) := HB1.out.trans (hb2.mono HB1.out.size)
  clear hb2 HB1
  by_cases h1 : a < 0
  · go_wp2
    go_ret
    exact ⟨by rw [HS.out]; rfl, HB2.out⟩
  · have h1' : 0 ≤ a := by omega
    by_cases h2 : (n : Int) < a
    · go_wp2
      go_ret
      exact ⟨by rw [HS.out]; rfl, HB2.out⟩
    · have h3 : 4096 < n := (HP.out.resolve_left h1).resolve_left h2
      go_wp2
      go_ret
      exact ⟨by rw [HS.out]; rfl, HB2.out⟩

theorem showNil_walk (A : Option Addr) (n cc : Nat) (w : World) :
    Calls Tryd.prog 30 #[.nilIface, .slice A n cc] w fun e w' => e = .returned (.string ⟨#[]⟩) ∧ Below w.heap.size w w' := by
  go_enter Tryd.func30, Tryd.ntmps30
  go_wp2_with fail
  refine (ofNil_walk _).mono ?_
  rintro e w1 ⟨rfl, hb1⟩
  have HB1 := Lib.hid hb1
  clear hb1
  go_wp2
  go_ret
  exact ⟨rfl, HB1.out⟩

/-- trouble.Show of whatever tells a class and a place -/
theorem show_any (c a : Int) (hc : c ≠ 0) (v : Value) (A : Option Addr) (n cc : Nat) (l : List Int) (w : World) (hr : Runes w (.slice A n cc) l) (hcc : n ≤ cc) (hl : l.length ≤ 35184372088832)
    (hof : ∀ w', Below w.heap.size w w' → Calls Tryd.prog 33 #[v] w' fun e w2 => e = .returned (.int .i64 c) ∧ Below w'.heap.size w' w2)
    (hat : ∀ w', Below w.heap.size w w' → Calls Tryd.prog 34 #[v] w' fun e w2 => e = .returned (.int .i64 a) ∧ Below w'.heap.size w' w2) :
    Calls Tryd.prog 30 #[v, .slice A n cc] w fun e w' => e = .returned (.string (showS (word c) a l)) ∧ Below w.heap.size w w' := by
  by_cases hp : a < 0 ∨ (l.length : Int) < a ∨ 4096 < l.length
  · obtain ⟨A', cc', n', hv', hn, _⟩ := hr.open_
    obtain ⟨rfl, rfl, rfl⟩ : A = A' ∧ n = n' ∧ cc = cc' := by simpa using hv'
    exact show_off c a hc v A n cc l w hn hl hp hof hat
  · obtain ⟨p, rfl⟩ := Int.eq_ofNat_of_zero_le (show 0 ≤ a by omega)
    exact show_line c hc p v A n cc l w hr hcc (by omega) (by omega) hof hat
end Go.Proofs.YtnhnaallalgefaaDoor
