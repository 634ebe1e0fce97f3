/- awake: the chapter's example. Conditions: the type handle of error lies in its variable. -/
import Derived.Test.YtnhnaallalgefaaDoorTrH
import Derived.Test.YtnhnaallalgefaaDoorTrF
import Derived.Test.YtnhnaallalgefaaDoorTrI
namespace Go.Proofs.YtnhnaallalgefaaDoor
open Go Go.RowKit Go.Proofs

theorem sts_one (w : World) (s : ByteArray) : Sts (w.alloc (.cells #[.string s] 9)) (.slice (some ⟨w.heap.size, 0, none⟩) 1 1) [s] := by
  refine .inr ⟨w.heap.size, 0, 1, 1, rfl, rfl, fun i hi => ?_⟩
  simp at hi
  subst hi
  rw [World.cell?_alloc_at _ _ _ _ (by simp)]; rfl

theorem Own1.sts {w : World} {B : Nat} {v : Value} {ss : List ByteArray} (h : Own1 w B 9 v (ss.map Value.string)) : Sts w v ss := h.reads

theorem awake_text : textOf 22 [⟨#[102]⟩] = ⟨#[102, 58, 32, 82, 65, 78, 75, 32, 69, 82, 82, 79, 82]⟩ := by decide

set_option maxRecDepth 100000 in
set_option maxHeartbeats 1000000 in
theorem awake_walk (w : World) (he : ErrT w) : Calls Tryd.prog 29 #[] w fun e w' => e = .returned (.bool true) ∧ Below w.heap.size w w' := by
  have HB1 : Hid (Below w.heap.size w (w.alloc (.cells #[.string ⟨#[102]⟩] 9))) := (Below.refl _ w).alloc (Nat.le_refl _) _
  have HM := Lib.hid (made_walk 22 3 (by decide) _ [⟨#[102]⟩] _ (sts_one w ⟨#[102]⟩) (by simp))
  have HE := Lib.hid he
  have HS1 : Hid (w.heap.size ≤ (w.alloc (.cells #[.string ⟨#[102]⟩] 9)).heap.size) := by unfold Hid; simp
  clear he
  go_enter Tryd.func29, Tryd.ntmps29
  go_wp2_with fail
  refine HM.out.mono ?_
  rintro e w2 ⟨v, rfl, hch, hb⟩
  have HB2 := Lib.hid (HB1.out.trans (hb.mono HS1.out))
  have HCH := Lib.hid hch
  clear hch hb
  go_wp2_with fail
  refine (text_walk 22 3 [⟨#[102]⟩] v w2 (by simp) (by intro n hn; simp at hn; subst hn; decide) HCH.out).mono ?_
  rintro e w3 ⟨rfl, m, rfl⟩
  rw [awake_text]
  have HB3 := Lib.hid (Below.drewN HB2.out m)
  have HCH3 := Lib.hid (HCH.out.drewN m)
  have heq : ((⟨#[102, 58, 32, 82, 65, 78, 75, 32, 69, 82, 82, 79, 82]⟩ : ByteArray).toList == (⟨#[102, 58, 32, 82, 65, 78, 75, 32, 69, 82, 82, 79, 82]⟩ : ByteArray).toList) = true := by simp
  generalize w2.drewN m = w3 at *
  go_wp2_with fail
  refine (at_walk 22 3 v _ w3 (HE.out.below HB3.out) HCH3.out).mono ?_
  rintro e w4 ⟨rfl, hb4⟩
  have HB4 := Lib.hid (HB3.out.trans (hb4.mono HB3.out.size))
  have HCH4 := Lib.hid (HCH3.out.below hb4)
  clear hb4
  go_wp2_with fail
  refine (names_walk 22 3 v _ w4 HCH4.out (by simp)).mono ?_
  rintro e w5 ⟨l, rfl, ho, hb5⟩
  have HB5 := Lib.hid (HB4.out.trans (hb5.mono HB4.out.size))
  have HT := Lib.hid (texts_walk l (.slice (some ⟨w5.heap.size, 0, none⟩) 1 1) [⟨#[102]⟩] [⟨#[102]⟩] (w5.alloc (.cells #[.string ⟨#[102]⟩] 9)) (Sts.below (Own1.sts ho) ((Below.refl _ _).alloc (Nat.le_refl _) _)) (sts_one w5 _) (by simp) (by simp))
  have HB6 := Lib.hid (HB5.out.alloc HB5.out.size (.cells #[.string ⟨#[102]⟩] 9))
  obtain ⟨A, cc, hl⟩ := Reads1.len ho.reads
  subst hl
  clear ho hb5
  go_wp2_with fail
  refine HT.out.mono ?_
  rintro e w7 ⟨rfl, m7, rfl⟩
  have HB7 := Lib.hid (Below.drewN HB6.out m7)
  go_wp2
  go_ret
  exact ⟨by simp, HB7.out⟩
end Go.Proofs.YtnhnaallalgefaaDoor
