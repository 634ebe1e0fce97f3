/- Plain law: runes as bytes. No program in sight. -/
import Derived.Laws.Cover4
namespace Go.Proofs.YtmfklpacpjoggaaDoor.Fl
open Go

theorem foldl_runes (l : List Int) : ∀ s : ByteArray, l.foldl (fun r n => r ++ Utf8.encode n) s = s ++ l.foldl (fun r n => r ++ Utf8.encode n) ByteArray.empty := by
  induction l with
  | nil => intro s; simp
  | cons c l ih =>
    intro s
    simp only [List.foldl_cons]
    rw [ih (s ++ Utf8.encode c), ih (ByteArray.empty ++ Utf8.encode c), ByteArray.empty_append, ByteArray.append_assoc]

theorem runesBytes_nil : runesBytes [] = ByteArray.empty := rfl
theorem runesBytes_cons (c : Int) (l : List Int) : runesBytes (c :: l) = Utf8.encode c ++ runesBytes l := by
  unfold runesBytes; rw [List.foldl_cons, ByteArray.empty_append, foldl_runes]
theorem runesBytes_append (a b : List Int) : runesBytes (a ++ b) = runesBytes a ++ runesBytes b := by
  induction a with
  | nil => simp [runesBytes_nil]
  | cons c a ih => rw [List.cons_append, runesBytes_cons, runesBytes_cons, ih, ByteArray.append_assoc]

theorem encode_ascii (c : Int) (h0 : 0 ≤ c) (h : c < 128) : Utf8.encode c = ⟨#[UInt8.ofNat c.toNat]⟩ := by
  have hv : Utf8.valid c = true := by unfold Utf8.valid; simp; omega
  unfold Utf8.encode
  simp only [hv, if_true]
  rw [if_pos (by omega)]
end Go.Proofs.YtmfklpacpjoggaaDoor.Fl
