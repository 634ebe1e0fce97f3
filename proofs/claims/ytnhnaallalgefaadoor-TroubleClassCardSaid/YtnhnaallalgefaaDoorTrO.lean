/- The walk of the reference's Show. Conditions: as each theorem says. -/
import Derived.Test.YtnhnaallalgefaaDoorTrN
namespace Go.Proofs.YtnhnaallalgefaaDoor
open Go Go.RowKit Go.Proofs

theorem enc_size (x : Int) : (Utf8.encode x).size ≤ 4 := encode_size_le x

set_option maxRecDepth 100000 in
set_option maxHeartbeats 1600000 in
theorem rShow_line (c : Int) (p : Nat) (A : Option Addr) (n cc : Nat) (l : List Int) (w : World) (hr : Runes w (.slice A n cc) l) (hl : l.length ≤ 4096) (hp : p ≤ l.length) :
    Calls Tryd.prog 32 #[.int .i64 c, .int .i64 (p : Int), .slice A n cc] w fun e w' => e = .returned (.string (showS (word c) p l)) ∧ Below w.heap.size w w' := by
  have HS : Hid (showS (word c) p l = ((((word c ++ ⟨#[10]⟩) ++ (seg l (lineFrom l p) (lineTo l p))) ++ ⟨#[10]⟩) ++ sp (p - lineFrom l p)) ++ ⟨#[94, 10]⟩) := by
    unfold Hid showS; rw [if_neg (by omega)]; rfl
  have hFp := lineFrom_le l p
  have hT1 := lineTo_ge l p
  have hT2 := lineTo_le hp
  obtain ⟨A', cc', n', hv', hn, hcell⟩ := hr.open_
  obtain ⟨rfl, rfl, rfl⟩ : A = A' ∧ n = n' ∧ cc = cc' := by simpa using hv'
  have HN := Lib.hid hn
  have HC := Lib.hid hcell
  have hW := word_size c
  have hpn : p ≤ n := by omega
  have hn4 : n ≤ 4096 := by omega
  have HLE : Hid (∀ k, lineFrom l k ≤ k) := fun k => lineFrom_le l k
  have HSZ : Hid (∀ f t, (seg l f t).size ≤ 16384) := fun f t => by have := seg_size l f t; omega
  have HSS : Hid (∀ f t, f ≤ t → t < l.length → seg l f (t + 1) = seg l f t ++ Utf8.encode (l.getD t 0)) := fun f t h1 h2 => seg_succ h1 h2
  have HLN : Hid (∀ k, l.getD k 0 = 10 → lineFrom l (k + 1) = k + 1) := fun k h => lineFrom_nl h
  have HLO : Hid (∀ k, ¬ l.getD k 0 = 10 → lineFrom l (k + 1) = lineFrom l k) := fun k h => lineFrom_no h
  have HTE : Hid (∀ k, l.length ≤ k → lineTo l k = k) := fun k h => lineTo_end h
  have HTN : Hid (∀ k, k < l.length → l.getD k 0 = 10 → lineTo l k = k) := fun k h h2 => lineTo_nl h h2
  have HTO : Hid (∀ k, k < l.length → ¬ l.getD k 0 = 10 → lineTo l (k + 1) = lineTo l k) := fun k h h2 => lineTo_no h h2
  have HS0 : Hid (∀ k, seg l k k = ⟨#[]⟩) := fun k => seg_self l k
  clear hv' hn hr hcell
  generalize hSn : word c = S at *
  have HSN := Lib.hid hSn
  clear hSn
  go_enter Tryd.func32, Tryd.ntmps32
  go_wp2_with fail
  refine (rWord_walk c _).mono ?_
  rintro e w1 ⟨rfl, hb1⟩
  have HB1 := Lib.hid hb1
  clear hb1
  rw [HSN.out]
  have a1 := fun w => run_string_add_sum (P := Tryd.prog) w S ⟨#[10]⟩ (by rw [size_nl]; omega)
  go_wp2
  go_loop [8, 9, 10] (fun line mark i => ∃ k : Nat, k ≤ p ∧ i = .int .i64 (k : Int) ∧ line = .string (seg l (lineFrom l k) k) ∧ mark = .string (sp (k - lineFrom l k))) (fun _ _ i => p - (intOf i).toNat)
  case atStart => exact ⟨0, Nat.zero_le _, rfl, by rw [show lineFrom l 0 = 0 from rfl, HS0.out], by rw [show (0 - lineFrom l 0) = 0 from Nat.zero_sub _]; rfl⟩
  case round =>
    obtain ⟨k, hk, rfl, rfl, rfl⟩ := hrel
    by_cases hkp : k < p
    · have hj : k < l.length := by have := HN.out; omega
      obtain ⟨b, o, rfl, hce⟩ := HC.out k hj
      have hce2 := hce _ HB1.out
      clear hce
      have HE1 := Lib.hid (HSS.out (lineFrom l k) k (HLE.out k) hj)
      have HLk := HLE.out k
      have hkn : k < n := by omega
      by_cases h10 : l.getD k 0 = 10
      · have HF := Lib.hid (HLN.out k h10)
        rw [h10] at hce2
        clear h10 HE1
        have hs1 := HSZ.out (lineFrom l k) k
        have hs2 := sp_size (k - lineFrom l k)
        generalize seg l (lineFrom l k) k = G at *
        generalize hM : sp (k - lineFrom l k) = M at *
        have hM4 : M.size ≤ 4096 := by omega
        have he := enc_size 10
        have a2 := fun w => run_string_add_sum (P := Tryd.prog) w G (Utf8.encode 10) (by omega)
        have a3 := fun w => run_string_add_sum (P := Tryd.prog) w M ⟨#[32]⟩ (by rw [size_bl]; omega)
        clear hM hs2 hs1 he hM4 HLk
        go_wp2
        go_round
        case rel => exact ⟨k + 1, by omega, by go_num, by rw [HF.out, HS0.out], by rw [HF.out, Nat.sub_self]; rfl⟩
        case measure => simp [intOf]; omega
      · have HF := Lib.hid (HLO.out k h10)
        have hne : (l.getD k 0 == 10) = false := by simpa using h10
        have HM1 : Hid (sp (k + 1 - lineFrom l k) = sp (k - lineFrom l k) ++ ⟨#[32]⟩) := by unfold Hid; rw [show k + 1 - lineFrom l k = (k - lineFrom l k) + 1 by omega]; rfl
        clear h10
        have hs1 := HSZ.out (lineFrom l k) k
        have hs2 := sp_size (k - lineFrom l k)
        generalize l.getD k 0 = x at *
        generalize seg l (lineFrom l k) k = G at *
        generalize hM : sp (k - lineFrom l k) = M at *
        have hM4 : M.size ≤ 4096 := by omega
        have he := enc_size x
        have a2 := fun w => run_string_add_sum (P := Tryd.prog) w G (Utf8.encode x) (by omega)
        have a3 := fun w => run_string_add_sum (P := Tryd.prog) w M ⟨#[32]⟩ (by rw [size_bl]; omega)
        clear hM hs2 hs1 he hM4 HLk
        go_wp2
        go_round
        case rel => exact ⟨k + 1, by omega, by go_num, by rw [HF.out, HE1.out], by rw [HF.out, HM1.out]⟩
        case measure => simp [intOf]; omega
    · obtain rfl : k = p := by omega
      have hTL : Hid (lineTo l k = lineTo l k) := rfl
      have hs2 := sp_size (k - lineFrom l k)
      generalize hT : lineTo l k = T at *
      have HTL := Lib.hid hT
      generalize hF : lineFrom l k = F at *
      generalize hM : sp (k - F) = M at *
      have hM4 : M.size ≤ 4096 := by omega
      clear hT hF hTL hs2 hM
      go_wp2
      go_loop [8, 11] (fun line i => ∃ j : Nat, k ≤ j ∧ j ≤ n ∧ i = .int .i64 (j : Int) ∧ line = .string (seg l F j) ∧ Hid (lineTo l j = T)) (fun _ i => n - (intOf i).toNat)
      case atStart => exact ⟨k, Nat.le_refl _, hpn, rfl, rfl, HTL.out⟩
      case round =>
        obtain ⟨j, hkj, hjn, rfl, rfl, hjT⟩ := hrel
        have hfin : Hid (∀ (h : j = T), (S ++ ⟨#[10]⟩ ++ seg l F j ++ ⟨#[10]⟩ ++ M ++ ⟨#[94, 10]⟩) = S ++ ⟨#[10]⟩ ++ seg l F T ++ ⟨#[10]⟩ ++ M ++ ⟨#[94, 10]⟩) := fun h => by rw [h]
        have hs1 := HSZ.out F j
        by_cases h0 : n ≤ j
        · have HE : Hid (j = T) := (HTE.out j (by have := HN.out; omega)).symm.trans hjT.out
          generalize seg l F j = G at *
          have a2 := fun w => run_string_add_sum (P := Tryd.prog) w (S ++ ⟨#[10]⟩) G (by rw [ByteArray.size_append, size_nl]; omega)
          have a3 := fun w => run_string_add_sum (P := Tryd.prog) w (S ++ ⟨#[10]⟩ ++ G) ⟨#[10]⟩ (by simp only [ByteArray.size_append, size_nl]; omega)
          have a4 := fun w => run_string_add_sum (P := Tryd.prog) w (S ++ ⟨#[10]⟩ ++ G ++ ⟨#[10]⟩) M (by simp only [ByteArray.size_append, size_nl]; omega)
          have a5 := fun w => run_string_add_sum (P := Tryd.prog) w (S ++ ⟨#[10]⟩ ++ G ++ ⟨#[10]⟩ ++ M) ⟨#[94, 10]⟩ (by simp only [ByteArray.size_append, size_nl, size_ca]; omega)
          clear hjT hs1
          go_wp2
          go_ret
          exact ⟨by rw [HS.out, ← hfin.out HE.out]; rfl, HB1.out⟩
        · have hj : j < l.length := by have := HN.out; omega
          obtain ⟨b, o, rfl, hce⟩ := HC.out j hj
          have hce2 := hce _ HB1.out
          clear hce
          have hjn2 : j < n := by omega
          by_cases h10 : l.getD j 0 = 10
          · rw [h10] at hce2
            have HE : Hid (j = T) := (HTN.out j hj h10).symm.trans hjT.out
            clear h10 hjT
            generalize seg l F j = G at *
            have a2 := fun w => run_string_add_sum (P := Tryd.prog) w (S ++ ⟨#[10]⟩) G (by rw [ByteArray.size_append, size_nl]; omega)
            have a3 := fun w => run_string_add_sum (P := Tryd.prog) w (S ++ ⟨#[10]⟩ ++ G) ⟨#[10]⟩ (by simp only [ByteArray.size_append, size_nl]; omega)
            have a4 := fun w => run_string_add_sum (P := Tryd.prog) w (S ++ ⟨#[10]⟩ ++ G ++ ⟨#[10]⟩) M (by simp only [ByteArray.size_append, size_nl]; omega)
            have a5 := fun w => run_string_add_sum (P := Tryd.prog) w (S ++ ⟨#[10]⟩ ++ G ++ ⟨#[10]⟩ ++ M) ⟨#[94, 10]⟩ (by simp only [ByteArray.size_append, size_nl, size_ca]; omega)
            clear hs1
            go_wp2
            go_ret
            exact ⟨by rw [HS.out, ← hfin.out HE.out]; rfl, HB1.out⟩
          · have HK : Hid (lineTo l (j + 1) = T) := (HTO.out j hj h10).trans hjT.out
            have h11 : (l.getD j 0 != 10) = true := by simpa using h10
            have HE1 := Lib.hid (HSS.out F j (by omega) hj)
            clear hjT hfin
            generalize l.getD j 0 = x at *
            generalize seg l F j = G at *
            have he := enc_size x
            have a2 := fun w => run_string_add_sum (P := Tryd.prog) w G (Utf8.encode x) (by omega)
            clear he hs1
            go_wp2
            go_round
            case rel => exact ⟨j + 1, by omega, by omega, by go_num, by rw [HE1.out], HK⟩
            case measure => simp [intOf]; omega
end Go.Proofs.YtnhnaallalgefaaDoor
