/- Plain laws: the runes of a string, one by one. No program in sight. -/
import Derived.Laws.RangeAny
import Derived.Laws.IdiomStrings
import Derived.Lib.RuneCount
namespace Go.Proofs.YtmfklpacpjoggaaDoor
open Go

/-- the runes of a string from a place on; f: no fewer than bytes are left -/
def rl (s : ByteArray) : Nat → Nat → List Int
  | 0, _ => []
  | f + 1, i => if i < s.size then ((Utf8.decode s i).1 : Int) :: rl s f (i + (Utf8.decode s i).2) else []
/-- the runes of a string -/
def runesOf (s : ByteArray) : List Int := rl s s.size 0

theorem rl_end (s : ByteArray) {f i : Nat} (h : s.size ≤ i) : rl s f i = [] := by
  cases f with
  | zero => rfl
  | succ f => rw [rl, if_neg (by omega)]
theorem rl_len (s : ByteArray) : ∀ f i, (rl s f i).length ≤ f
  | 0, _ => Nat.le_refl _
  | f + 1, i => by
    rw [rl]; split
    · have := rl_len s f (i + (Utf8.decode s i).2); simp; omega
    · simp
theorem runesOf_len (s : ByteArray) : (runesOf s).length ≤ s.size := rl_len s _ _
theorem rl_fuel (s : ByteArray) : ∀ f g i, s.size - i ≤ f → s.size - i ≤ g → rl s f i = rl s g i
  | 0, g, i, h, _ => by rw [rl_end s (by omega), rl_end s (by omega)]
  | f + 1, 0, i, _, h => by rw [rl_end s (by omega), rl_end s (by omega)]
  | f + 1, g + 1, i, h1, h2 => by
    rw [rl, rl]
    split
    · rename_i hi
      have hw := Lib.decode_width_pos s i hi
      rw [rl_fuel s f g _ (by omega) (by omega)]
    · rfl
theorem rl_step (s : ByteArray) {i : Nat} (h : i < s.size) : rl s (s.size - i) i = ((Utf8.decode s i).1 : Int) :: rl s (s.size - (i + (Utf8.decode s i).2)) (i + (Utf8.decode s i).2) := by
  have hw := Lib.decode_width_pos s i h
  obtain ⟨f, hf⟩ : ∃ f, s.size - i = f + 1 := ⟨s.size - i - 1, by omega⟩
  rw [hf, rl, if_pos h, rl_fuel s f (s.size - (i + (Utf8.decode s i).2)) _ (by omega) (by omega)]
theorem conv_rl (s : ByteArray) : ∀ (b i : Nat) (acc : Array Value), Conv.runesFrom s b i acc = acc ++ ((rl s b i).map (Value.int .i32)).toArray
  | 0, i, acc => by simp [Conv.runesFrom, rl]
  | b + 1, i, acc => by
    unfold Conv.runesFrom
    rw [rl]
    split
    · show Conv.runesFrom s b (i + (Utf8.decode s i).2) (acc.push (.int .i32 (Int.ofNat (Utf8.decode s i).1))) = _
      rw [conv_rl s b]; simp
    · simp
theorem conv_runesOf (s : ByteArray) : Conv.runesFrom s s.size 0 #[] = ((runesOf s).map (Value.int .i32)).toArray := by rw [conv_rl]; simp [runesOf]
end Go.Proofs.YtmfklpacpjoggaaDoor
