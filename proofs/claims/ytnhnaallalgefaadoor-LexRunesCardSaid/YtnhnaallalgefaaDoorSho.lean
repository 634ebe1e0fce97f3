/- Plain laws: the line of a text in which a place lies, as bytes, and a mark below it. No program in sight. -/
import Derived.Test.YtnhnaallalgefaaDoorStr
namespace Go.Proofs.YtnhnaallalgefaaDoor

/-- where the line begins in which a place lies -/
def lineFrom (l : List Int) : Nat → Nat
  | 0 => 0
  | p + 1 => if l.getD p 0 = 10 then p + 1 else lineFrom l p
theorem lineFrom_le (l : List Int) : ∀ p, lineFrom l p ≤ p
  | 0 => Nat.le_refl _
  | p + 1 => by unfold lineFrom; split; exact Nat.le_refl _; have := lineFrom_le l p; omega
theorem lineFrom_nl {l : List Int} {p : Nat} (h : l.getD p 0 = 10) : lineFrom l (p + 1) = p + 1 := by rw [lineFrom, if_pos h]
theorem lineFrom_no {l : List Int} {p : Nat} (h : ¬ l.getD p 0 = 10) : lineFrom l (p + 1) = lineFrom l p := by rw [lineFrom, if_neg h]

/-- and where it ends -/
def lineTo (l : List Int) (p : Nat) : Nat := p + ((l.drop p).takeWhile fun c => c ≠ 10).length
theorem lineTo_end {l : List Int} {p : Nat} (h : l.length ≤ p) : lineTo l p = p := by unfold lineTo; rw [List.drop_eq_nil_of_le h]; rfl
theorem lineTo_nl {l : List Int} {p : Nat} (h : p < l.length) (h2 : l.getD p 0 = 10) : lineTo l p = p := by
  unfold lineTo
  rw [List.drop_eq_getElem_cons h, List.takeWhile_cons]
  have : l[p] = 10 := by simpa [List.getD, h] using h2
  simp [this]
theorem lineTo_no {l : List Int} {p : Nat} (h : p < l.length) (h2 : ¬ l.getD p 0 = 10) : lineTo l (p + 1) = lineTo l p := by
  unfold lineTo
  rw [List.drop_eq_getElem_cons h, List.takeWhile_cons]
  have : l[p] ≠ 10 := by simpa [List.getD, h] using h2
  simp [this]
  omega
theorem lineTo_ge (l : List Int) (p : Nat) : p ≤ lineTo l p := Nat.le_add_right _ _
theorem lineTo_le {l : List Int} {p : Nat} (h : p ≤ l.length) : lineTo l p ≤ l.length := by
  unfold lineTo
  have h2 := (List.takeWhile_sublist (fun c => decide (c ≠ 10)) (l := l.drop p)).length_le
  rw [List.length_drop] at h2
  omega

/-- runes from a place up to another one, as bytes -/
def seg (l : List Int) (f t : Nat) : ByteArray := runesBytes ((l.take t).drop f)
theorem seg_self (l : List Int) (f : Nat) : seg l f f = ⟨#[]⟩ := by
  unfold seg; rw [List.drop_eq_nil_of_le (by simp; omega)]; rfl
theorem seg_succ {l : List Int} {f t : Nat} (hf : f ≤ t) (ht : t < l.length) : seg l f (t + 1) = seg l f t ++ Utf8.encode (l.getD t 0) := by
  unfold seg
  rw [List.take_succ_eq_append_getElem ht, List.drop_append_of_le_length (by simp; omega), Fl.runesBytes_append, Fl.runesBytes_cons, Fl.runesBytes_nil, ByteArray.append_empty]
  simp [List.getD, ht]
theorem seg_size (l : List Int) (f t : Nat) : (seg l f t).size ≤ 4 * l.length := by
  have := runesBytes_size_le ((l.take t).drop f)
  unfold seg
  have h2 : ((l.take t).drop f).length ≤ l.length := by simp; omega
  omega

/-- blanks -/
def sp : Nat → ByteArray
  | 0 => ⟨#[]⟩
  | n + 1 => sp n ++ ⟨#[32]⟩
theorem sp_size : ∀ n, (sp n).size = n
  | 0 => rfl
  | n + 1 => by rw [sp, ByteArray.size_append, sp_size n]; rfl

theorem size_nl : ByteArray.size ⟨#[10]⟩ = 1 := rfl
theorem size_bl : ByteArray.size ⟨#[32]⟩ = 1 := rfl
theorem size_ca : ByteArray.size ⟨#[94, 10]⟩ = 2 := rfl

/-- a trouble under its text: s is the class in words -/
def showS (s : ByteArray) (a : Int) (l : List Int) : ByteArray :=
  if a < 0 ∨ (l.length : Int) < a ∨ 4096 < l.length then s ++ ⟨#[10]⟩
  else ((((s ++ ⟨#[10]⟩) ++ (seg l (lineFrom l a.toNat) (lineTo l a.toNat))) ++ ⟨#[10]⟩) ++ sp (a.toNat - lineFrom l a.toNat)) ++ ⟨#[94, 10]⟩
end Go.Proofs.YtnhnaallalgefaaDoor
