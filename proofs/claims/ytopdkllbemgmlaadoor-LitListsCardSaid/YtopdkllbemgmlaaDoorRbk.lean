/- Plain law: what is written is read again. -/
import Derived.Test.YtopdkllbemgmlaaDoorLitO
import Derived.Test.YtopdkllbemgmlaaDoorLitL
namespace Go.Proofs.YtopdkllbemgmlaaDoor
open Go Go.RowKit Go.Proofs Fl

theorem dig_dec (m : Nat) : dig ((48 : Int) + (m % 10 : Nat)) = true := by
  unfold dig; simp; omega

theorem dg_step {a j : Nat} {c : Int} {t : List Int} (hc : dig c = true) (h : 10 * a + (c - 48).toNat ≤ 9007199254740992) : dg a j (c :: t) = dg (10 * a + (c - 48).toNat) (j + 1) t := by
  conv => lhs; unfold dg
  rw [hc, if_pos rfl, if_neg (by omega)]

/-- digits that were written are read as they were, whatever follows -/
theorem dg_dec (m : Nat) : ∀ (j : Nat) (t : List Int), m ≤ 9007199254740992 → dg 0 j ((decR m).reverse ++ t) = dg m (j + (decR m).length) t := by
  induction m using Nat.strongRecOn with
  | _ m ih =>
    intro j t hm
    by_cases h : m / 10 = 0
    · rw [decR_last h, List.reverse_singleton, List.singleton_append, dg_step (dig_dec m) (by omega)]
      congr 1; omega
    · rw [decR_next h, List.reverse_cons, List.append_assoc, List.singleton_append, ih (m / 10) (by omega) j _ (by omega), dg_step (dig_dec m) (by omega), List.length_cons]
      congr 1; omega

/-- what no number goes on with -/
def Ends (t : List Int) : Prop := t = [] ∨ ∃ c u, t = c :: u ∧ dig c = false

theorem dg_ends {t : List Int} (h : Ends t) (a j : Nat) : dg a j t = some (a, j) := by
  rcases h with rfl | ⟨c, u, rfl, hc⟩
  · rfl
  · unfold dg; rw [hc]; rfl

theorem dg_read (m j : Nat) (t : List Int) (hm : m ≤ 9007199254740992) (h : Ends t) : dg 0 j ((decR m).reverse ++ t) = some (m, j + (decR m).length) := by
  rw [dg_dec m j t hm, dg_ends h]

theorem decR_len_pos (m : Nat) : 0 < (decR m).length := List.length_pos_iff.2 (decR_ne m)

theorem decR_head (m : Nat) : ∃ c u, (decR m).reverse = c :: u ∧ dig c = true := by
  induction m using Nat.strongRecOn with
  | _ m ih =>
    by_cases h : m / 10 = 0
    · exact ⟨_, [], by rw [decR_last h]; rfl, dig_dec m⟩
    · obtain ⟨c, u, e, hc⟩ := ih (m / 10) (by omega)
      exact ⟨c, u ++ [(48 : Int) + (m % 10 : Nat)], by rw [decR_next h, List.reverse_cons, e]; rfl, hc⟩

theorem writeS_length (n : Int) : (writeS n).length = (if n < 0 then 1 else 0) + (decR n.natAbs).length := by
  unfold writeS; split <;> simp <;> omega

theorem wholeS_read (pre t : List Int) (n : Int) (h1 : -9007199254740992 ≤ n) (h2 : n ≤ 9007199254740992) (h : Ends t) :
    wholeS (pre ++ writeS n ++ t) pre.length = some (n, pre.length + (writeS n).length) := by
  by_cases hn : n < 0
  · have e : writeS n = 175 :: (decR n.natAbs).reverse := by unfold writeS; rw [if_pos hn]; rfl
    have hl : pre ++ writeS n ++ t = pre ++ (175 :: ((decR n.natAbs).reverse ++ t)) := by rw [e]; simp
    have hget : (pre ++ writeS n ++ t)[pre.length]? = some 175 := by rw [hl]; simp
    have hd : (pre ++ writeS n ++ t).drop (pre.length + 1) = (decR n.natAbs).reverse ++ t := by
      rw [hl, List.drop_append, List.drop_of_length_le (by omega)]; simp
    unfold wholeS
    rw [if_pos hget, hd, dg_read _ _ _ (by omega) h]
    have hp := decR_len_pos n.natAbs
    simp only
    rw [if_pos (by omega), writeS_length, if_pos hn]
    simp; omega
  · have e : writeS n = (decR n.natAbs).reverse := by unfold writeS; rw [if_neg hn]; rfl
    obtain ⟨c, u, hcu, hc⟩ := decR_head n.natAbs
    have hl : pre ++ writeS n ++ t = pre ++ ((decR n.natAbs).reverse ++ t) := by rw [e, List.append_assoc]
    have hget : (pre ++ writeS n ++ t)[pre.length]? = some c := by rw [hl, hcu]; simp
    have hne : ¬ (pre ++ writeS n ++ t)[pre.length]? = some 175 := by
      rw [hget]; intro e1
      have : c = 175 := by simpa using e1
      subst this; revert hc; decide
    have hd : (pre ++ writeS n ++ t).drop pre.length = (decR n.natAbs).reverse ++ t := by rw [hl]; simp
    unfold wholeS
    rw [if_neg hne, hd, dg_read _ _ _ (by omega) h]
    have hp := decR_len_pos n.natAbs
    simp only
    rw [if_pos (by omega), writeS_length, if_neg hn]
    simp; omega

/-- what no number goes on with, a power neither -/
def Ends2 (t : List Int) : Prop := t = [] ∨ ∃ c u, t = c :: u ∧ dig c = false ∧ c ≠ 112

theorem Ends2.ends {t : List Int} (h : Ends2 t) : Ends t := by
  rcases h with h | ⟨c, u, e, hc, _⟩
  · exact .inl h
  · exact .inr ⟨c, u, e, hc⟩

/-- the scale of a number's parts is the number -/
theorem scale_parts (s : Bool) {q j : Nat} (hq : q % 2 = 1) (hz : Rep (q * 2^j)) : scaleS (sg s q) ((j : Int) - 1074) = some (W s (q * 2^j)) := by
  obtain ⟨b1, b2⟩ := odd_bounds hz hq rfl
  have hlog : j ≤ 2097 := b2
  have hl := hz.1
  have hjl : j ≤ (q * 2^j).log2 := by
    rw [log2_mul_pow j (show q ≠ 0 by omega)]; omega
  have hK : K = 1074 := rfl
  have hneg : decide (sg s q < 0) = s := by
    cases s
    · exact decide_eq_false (by rw [sg_false]; omega)
    · exact decide_eq_true (by rw [sg_true]; omega)
  have hne : sg s q ≠ 0 := by rw [Ne, sg_eq_zero]; omega
  unfold scaleS
  rw [if_pos ⟨by rw [natAbs_sg]; omega, by omega, by omega⟩, if_neg hne, natAbs_sg, hneg]
  unfold scaleOk
  by_cases hp : 0 ≤ (j : Int) - 1074
  · obtain ⟨d, hd⟩ : ∃ d, j = K + d := ⟨j - 1074, by omega⟩
    have e : q * 2^K * 2^((j : Int) - 1074).toNat = q * 2^j := by
      rw [Nat.mul_assoc, ← Nat.pow_add]; congr 2; omega
    rw [if_pos hp, e, if_pos hl]; rfl
  · have e : q * 2^K = q * 2^j * 2^(-((j : Int) - 1074)).toNat := by
      rw [Nat.mul_assoc, ← Nat.pow_add]; congr 2; omega
    rw [if_neg hp, e, Nat.mul_mod_left, if_pos rfl, Nat.mul_div_cancel _ (Nat.two_pow_pos _)]; rfl

/-- a number that was written is read as it was, wherever it stands -/
theorem readS_back (s : Bool) {Z : Nat} (hz : Rep Z) (htidy : Z = 0 → s = false) {l : List Int} (hl : WrIs s Z l) (pre t : List Int) (ht : Ends2 t) :
    readS (pre ++ l ++ t) pre.length = some (W s Z, pre.length + l.length) := by
  rcases hl with ⟨m, hm, hZ, hl⟩ | ⟨hn, q, j, hq, hZ, hl⟩
  · obtain ⟨b1, b2⟩ := sg_bd s hm
    have hw := wholeS_read pre t (sg s m) b1 b2 ht.ends
    rw [← hl] at hw
    have hlen : pre.length < (pre ++ l ++ t).length := by
      have := List.length_pos_iff.2 (writeS_ne (sg s m))
      rw [← hl] at this
      simp; omega
    have hp : ¬ (pre ++ l ++ t)[pre.length + l.length]? = some 112 := by
      rw [show pre.length + l.length = (pre ++ l).length by simp, List.getElem?_append_right (Nat.le_refl _), Nat.sub_self]
      rcases ht with rfl | ⟨c, u, rfl, _, hc⟩
      · simp
      · simpa using hc
    rw [readS_int hlen hw hp, ofInt_sg s m hm, hZ]
    congr 2
    by_cases h0 : m = 0
    · have hs := htidy (by rw [hZ, h0, Nat.zero_mul])
      rw [hs, h0]
      have : decide (sg false 0 < 0) = false := by decide
      rw [this]
    · congr 1
      cases s
      · exact decide_eq_false (by rw [sg_false]; omega)
      · exact decide_eq_true (by rw [sg_true]; omega)
  · rw [hZ] at hz
    obtain ⟨b0, b3⟩ := odd_bounds hz hq rfl
    obtain ⟨b1, b2⟩ := sg_bd s (show q ≤ 9007199254740992 by omega)
    have e1 : pre ++ l ++ t = pre ++ writeS (sg s q) ++ (112 :: (writeS ((j : Int) - 1074) ++ t)) := by rw [hl]; simp
    have e2 : pre ++ l ++ t = (pre ++ writeS (sg s q) ++ [112]) ++ writeS ((j : Int) - 1074) ++ t := by rw [hl]; simp
    have hw := wholeS_read pre (112 :: (writeS ((j : Int) - 1074) ++ t)) (sg s q) b1 b2 (.inr ⟨_, _, rfl, by decide⟩)
    rw [← e1] at hw
    have hw2 := wholeS_read (pre ++ writeS (sg s q) ++ [112]) t ((j : Int) - 1074) (by omega) (by omega) ht.ends
    rw [← e2] at hw2
    have hlen : pre.length < (pre ++ l ++ t).length := by rw [e1]; simp; omega
    have hp : (pre ++ l ++ t)[pre.length + (writeS (sg s q)).length]? = some 112 := by
      rw [e1, show pre.length + (writeS (sg s q)).length = (pre ++ writeS (sg s q)).length by simp, List.getElem?_append_right (Nat.le_refl _), Nat.sub_self]; rfl
    rw [readS_p hlen hw hp]
    have e3 : pre.length + (writeS (sg s q)).length + 1 = (pre ++ writeS (sg s q) ++ [112]).length := by simp; omega
    rw [e3, hw2]
    simp only
    rw [scale_parts s hq hz, hZ, hl]
    simp; omega
end Go.Proofs.YtopdkllbemgmlaaDoor
