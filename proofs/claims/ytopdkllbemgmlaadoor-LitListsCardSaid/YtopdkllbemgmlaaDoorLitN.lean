/- The walks of the reference's digits and whole. Conditions: as each theorem says. -/
import Derived.Test.YtopdkllbemgmlaaDoorLitM
import Derived.Test.YtopdkllbemgmlaaDoorStr
namespace Go.Proofs.YtopdkllbemgmlaaDoor
open Go Go.RowKit Go.Proofs Fl

theorem conv_byte (c : Int) (h0 : 0 ≤ c) (h : c < 128) (w : World) :
    (convert 61 9 (.slice (some ⟨w.heap.size, 0, none⟩) 1 1)).run Tryd.prog (w.alloc (.cells #[.int .u8 c] 5)) = .ok (.string (Utf8.encode c)) (w.alloc (.cells #[.int .u8 c] 5)) := by
  rw [run_convert_bytes_string (P := Tryd.prog) _ 61 9 5 _ _ _ Tryd.underlying61 Tryd.underlying5 Tryd.underlying9]
  rw [run_bytesToString (P := Tryd.prog) _ _ _ _ [c] (by simp [go_sem, loadCells, loadCellsFrom])]
  rw [encode_ascii c h0 h]; rfl

/-- a text, and nothing of what there was is turned -/
def Texts (w0 : World) (S : ByteArray) (e : Ending) (w' : World) : Prop := e = .returned (.string S) ∧ Below w0.heap.size w0 w'

theorem u8_wrap (k : Nat) : IntKind.u8.wrap ((48 : Int) + (k : Int) % 10) = 48 + (k : Int) % 10 := by
  rw [IntKind.wrap_u8']; omega

theorem size_encode (c : Int) (h0 : 0 ≤ c) (h : c < 128) : (Utf8.encode c).size = 1 := by rw [encode_ascii c h0 h]; rfl

set_option maxRecDepth 100000 in
set_option maxHeartbeats 1000000 in
theorem rdigits_any (m : Nat) (hm : m ≤ 9007199254740992) (w : World) :
    Calls Tryd.prog 36 #[.int .i64 m] w fun e w' => Texts w (runesBytes (decR m).reverse) e w' := by
  generalize hD : decR m = D
  have HD := Lib.hid hD
  have hlen : D.length ≤ 16 := by
    rw [← hD]
    rcases decR_len 16 m (by omega) with h | h
    · exact h
    · omega
  clear hD
  obtain ⟨B, hB⟩ : ∃ B, B = w.heap.size := ⟨_, rfl⟩
  have HB := Lib.hid hB
  have HS : Hid (∀ e w', Texts w (runesBytes D.reverse) e w' = (e = .returned (.string (runesBytes D.reverse)) ∧ Below B w w')) := by rw [hB]; exact fun _ _ => rfl
  clear hB
  go_enter Tryd.func36, Tryd.ntmps36
  go_wp2
  go_loopw [0, 3, 4] (fun n s i wr => ∃ (k : Nat) (ds : List Int) (S : ByteArray), n = .int .i64 k ∧ s = .string S ∧ i = .int .i64 ds.length ∧ Hid (S = runesBytes ds.reverse) ∧ S.size ≤ 64 ∧ Hid (D = ds ++ decR k) ∧ Below B w wr ∧ k ≤ 9007199254740992) (fun n _ _ _ => (intOf n).toNat)
  case atStart => exact ⟨m, [], _, rfl, rfl, rfl, rfl, by decide, HD.out.symm, Below.refl B w, hm⟩
  case round =>
    obtain ⟨k, ds, S, rfl, rfl, rfl, hS, hsz, hq, hbel, hk⟩ := hrel
    have hch := u8_wrap k
    have hc1 : (Utf8.encode (48 + (k : Int) % 10)).size = 1 := size_encode _ (by omega) (by omega)
    have hdl : ds.length < 16 := by
      have h1 := congrArg List.length hq.out
      have h2 : (decR k).length ≠ 0 := by intro e; exact decR_ne k (List.eq_nil_of_length_eq_zero e)
      rw [List.length_append] at h1; omega
    have hss : S.size ≤ 4 * ds.length := by
      rw [hS.out]; have := runesBytes_size_le ds.reverse; simpa using this
    have hBw : B ≤ wr.heap.size := by rw [HB.out]; exact hbel.size
    have cv := conv_byte (48 + (k : Int) % 10) (by omega) (by omega) wr
    have hS2 : Hid (Utf8.encode (48 + (k : Int) % 10) ++ S = runesBytes (ds ++ [(48 : Int) + (k : Int) % 10]).reverse) := by
      show _ = _
      rw [hS.out, List.reverse_append, List.reverse_singleton, List.singleton_append, runesBytes_cons]
    by_cases h10 : k / 10 = 0
    · have HE : Hid (D = ds ++ [(48 : Int) + (k : Int) % 10]) := by
        show _ = _
        rw [hq.out, decR_last h10]; simp
      have hz : ((k : Int) / 10 == 0) = true := beq_iff_eq.2 (by omega)
      clear hq h10 hS
      generalize Utf8.encode (48 + (k : Int) % 10) = E at *
      go_wp2
      go_ret
      rw [HS.out, HE.out, ← hS2.out]
      exact ⟨rfl, hbel.alloc hBw _⟩
    · have HE : Hid (D = (ds ++ [(48 : Int) + (k : Int) % 10]) ++ decR (k / 10)) := by
        show _ = _
        rw [hq.out, decR_next h10]; simp
      have hz : ((k : Int) / 10 == 0) = false := beq_eq_false_iff_ne.2 (by omega)
      have hsz2 : (Utf8.encode (48 + (k : Int) % 10) ++ S).size ≤ 64 := by rw [ByteArray.size_append]; omega
      clear hq hS
      generalize Utf8.encode (48 + (k : Int) % 10) = E at *
      go_wp2
      go_roundw
      case rel => exact ⟨k / 10, _, _, by go_num, rfl, by simp, hS2, hsz2, HE, hbel.alloc hBw _, by omega⟩
      case measure => simp [intOf]; omega
end Go.Proofs.YtopdkllbemgmlaaDoor
