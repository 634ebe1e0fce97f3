/- Plain laws: the runes of a valid text, written again, are the text. No program in sight. -/
import Derived.Test.YtnhnaallalgefaaDoorRun
import Derived.Test.YtnhnaallalgefaaDoorStr
import Derived.Lib.MapLaws
import Derived.Lib.TrimUEq
import Derived.Lib.ValidLaws
import Derived.Stop.FmtQuoteTie
namespace Go.Proofs.YtnhnaallalgefaaDoor
open Go

theorem enc_same (r : Nat) : (Utf8.encode (r : Int)).data.toList = Lib.encodeRune (r : Int) := by
  unfold Lib.encodeRune
  rw [← Extern.FmtText.encode_eq]
  unfold Extern.FmtText.nums
  rw [List.map_map]
  conv => lhs; rw [← List.map_id (Utf8.encode (r : Int)).data.toList]
  refine List.map_congr_left fun b _ => ?_
  show b = UInt8.ofNat ((b.toNat : Int)).toNat
  rw [Int.toNat_natCast, UInt8.ofNat_toNat]

theorem rl_bytes (s : ByteArray) : ∀ (f i : Nat), s.size - i ≤ f → Lib.validD (s.data.toList.drop i) = true → (runesBytes (rl s f i)).data.toList = s.data.toList.drop i
  | 0, i, h, _ => by
    rw [rl_end s (by omega), List.drop_eq_nil_of_le (by rw [← Lib.size_eq]; omega)]; rfl
  | f + 1, i, h, hv => by
    by_cases hi : i < s.size
    · have hne : s.data.toList.drop i ≠ [] := by
        intro e
        have := congrArg List.length e
        rw [List.length_drop, ← Lib.size_eq] at this
        simp at this
        omega
      have hd := Lib.decodeL_drop s i
      rw [rl, if_pos hi, Fl.runesBytes_cons]
      have hst := Lib.validD_step _ hne
      rw [hv] at hst
      have hbad : ¬ ((Lib.decodeL (s.data.toList.drop i)).1 = 65533 ∧ (Lib.decodeL (s.data.toList.drop i)).2 = 1) := by
        intro hc; rw [if_pos hc] at hst; cases hst
      rw [if_neg hbad, List.drop_drop] at hst
      have he := Lib.encode_decode _ hne hbad
      rw [hd] at hst he
      have hw := Lib.decode_width_pos s i hi
      have ih := rl_bytes s f (i + (Utf8.decode s i).2) (by omega) hst.symm
      rw [ByteArray.data_append, Array.toList_append, ih, enc_same, he, ← List.drop_drop, List.take_append_drop]
    · rw [rl_end s (by omega), List.drop_eq_nil_of_le (by rw [← Lib.size_eq]; omega)]; rfl

theorem str_runes (s : ByteArray) (h : Lib.validD s.data.toList = true) : runesBytes (runesOf s) = s := by
  have := rl_bytes s s.size 0 (by omega) (by simpa using h)
  rw [List.drop_zero] at this
  cases hs : runesBytes (runesOf s) with
  | mk d =>
    unfold runesOf at hs
    rw [hs] at this
    cases s with
    | mk e =>
      simp at this
      rw [this]

theorem count_from (s : ByteArray) : ∀ f i, Lib.runeCountFrom s f i = (rl s f i).length
  | 0, _ => rfl
  | f + 1, i => by
    unfold Lib.runeCountFrom
    rw [rl]
    split
    · rw [count_from s f]; simp; omega
    · rfl
end Go.Proofs.YtnhnaallalgefaaDoor
