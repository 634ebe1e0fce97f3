/- The walks of the reference's Bits and of the statements' own example. Conditions: as each theorem says. -/
import Derived.Test.YtopdkllbemgmlaaDoorRbk
namespace Go.Proofs.YtopdkllbemgmlaaDoor
open Go Go.RowKit Go.Proofs Fl

theorem inf_div (s : Bool) : floatBits .quo .f64 4607182418800017408 (W s 0) = some (infw s) := by cases s <;> decide +kernel

set_option maxHeartbeats 400000 in
theorem bits_same (s : Bool) {Z : Nat} (hz : Rep Z) (w : World) :
    Calls Tryd.prog 13 #[.float .f64 (W s Z), .float .f64 (W s Z)] w fun e w' => e = .returned (.bool true) ∧ w = w' := by
  have h1 := fo_refl s hz
  have h2 := fo_eq s false hz rep_zero
  rw [W_zero, sg_zero] at h2
  by_cases h0 : Z = 0
  · subst h0
    rw [sg_zero, decide_eq_true rfl] at h2
    have h2' : FloatKind.f64.format.order (W s 0) 0 = some .eq := by simpa using h2
    have h3 := fo_infinf s
    have h4 := fun w => run_float_arith (P := Tryd.prog) w .quo 22 .f64 _ _ _ (inf_div s)
    clear hz h2
    generalize W s 0 = b at *
    go_enter Tryd.func13, Tryd.ntmps13
    go_wp2
    go_ret
    exact ⟨rfl, rfl⟩
  · rw [decide_eq_false (by rw [sg_eq_zero]; exact h0)] at h2
    have h2' := beq_eq_false_iff_ne.1 h2
    have h2n : (FloatKind.f64.format.order (W s Z) 0 != some .eq) = true := by rw [bne, h2]; rfl
    clear hz h0
    generalize W s Z = b at *
    go_enter Tryd.func13, Tryd.ntmps13
    go_wp2
    go_ret
    exact ⟨rfl, rfl⟩

/-- string(runes) -/
theorem conv_runes {w : World} {v : Value} {l : List Int} (h : Runes w v l) :
    (convert 26 9 v).run Tryd.prog w = .ok (.string (runesBytes l)) w := by
  rcases h with ⟨a, c, rfl, rfl⟩ | ⟨b, o, n, c, rfl, hn, hc⟩
  · rw [run_convert_runes_string (P := Tryd.prog) w 26 9 21 _ _ _ Tryd.underlying26 Tryd.underlying21 Tryd.underlying9]
    cases a with
    | none => rfl
    | some a => exact run_runesToString w a 0 c [] (by simp [go_sem, loadCells, loadCellsFrom])
  · have := run_convert_runes (P := Tryd.prog) w 26 9 21 ⟨b, o, none⟩ n c l (by omega) Tryd.underlying26 Tryd.underlying21 Tryd.underlying9 (by
      intro j hj
      have e : (⟨b, o, none⟩ : Addr).add j = ⟨b, o + j, none⟩ := by
        unfold Addr.add; split
        · rename_i h0; subst h0; rfl
        · rfl
      rw [e, hc j hj]
      simp [List.getD, hj])
    rw [this, hn, List.take_length]

def KH : Nat := 1073
theorem wr_half : WrIs false (1 * 2^KH) [49, 112, 175, 49] := by
  refine .inr ⟨?_, 1, KH, rfl, rfl, ?_⟩
  · rintro ⟨m, _, h⟩
    have h2 : 2^KH * 1 = 2^KH * (m * 2) := by
      rw [Nat.mul_comm, h, show K = KH + 1 from rfl, Nat.pow_succ]
      generalize 2^KH = T
      rw [Nat.mul_comm T 2, ← Nat.mul_assoc, Nat.mul_comm]
    have := Nat.eq_of_mul_eq_mul_left (Nat.two_pow_pos KH) h2
    omega
  · have e1 : writeS (sg false 1) = [49] := by simp [writeS, sg, decR_last]
    have e2 : writeS ((KH : Int) - 1074) = [175, 49] := by simp [KH, writeS, decR_last]
    rw [e1, e2]; rfl
theorem wr_neg3 : WrIs true (3 * 2^K) [175, 51] := .inl ⟨3, by omega, rfl, by simp [writeS, sg, decR_last]⟩
theorem W_half : W false (1 * 2^KH) = 4602678819172646912 := by decide +kernel
theorem W_neg3 : W true (3 * 2^K) = 13837309855095848960 := by decide +kernel
theorem rep_half : Rep (1 * 2^KH) := rep_int KH (by omega) (by unfold KH; omega)

theorem read_example : readS [51, 112, 52] 0 = some (4631952216750555136, 3) := by decide +kernel
theorem text_half : runesBytes [49, 112, 175, 49] = ⟨#[49, 112, 194, 175, 49]⟩ := by decide +kernel
theorem text_neg3 : runesBytes [175, 51] = ⟨#[194, 175, 51]⟩ := by decide +kernel
theorem order_48 : FloatKind.f64.format.order 4631952216750555136 4631952216750555136 = some .eq := by decide +kernel

theorem TzTab.below {w w' : World} (h : TzTab w) (hb : Below w.heap.size w w') : TzTab w' := fun i hi => by rw [hb.cell (cell_lt (h i hi))]; exact h i hi

theorem runes_new (w : World) (l : List Int) (c : Nat) : Runes (w.alloc (.cells (l.map (Value.int .i32)).toArray 21)) (.slice (some ⟨w.heap.size, 0, none⟩) l.length c) l := by
  refine .inr ⟨w.heap.size, 0, l.length, c, rfl, rfl, fun i hi => ?_⟩
  rw [Nat.zero_add, cell_of_row _ w.heap.size i _ 21 (0, 0) (heap_alloc_new w _)]
  simp [hi]

set_option maxHeartbeats 800000 in
theorem awake_any (w : World) (ht : TzTab w) :
    Calls Tryd.prog 9 #[] w fun e w' => e = .returned (.bool true) ∧ Below w.heap.size w w' := by
  have HT := Lib.hid ht
  clear ht
  have ho := order_48
  have HR : Hid (∀ w v, Runes w v [51, 112, 52] → Calls Tryd.prog 11 #[v, .int .i64 0] w fun e w' => e = .returned (.tuple #[.float .f64 4631952216750555136, .int .i64 3, .bool true]) ∧ w = w') := by
    intro w v h
    have := lread_any h (by decide) 0
    rw [read_example] at this
    exact this
  have HW1 : Hid (∀ w, TzTab w → Calls Tryd.prog 10 #[.float .f64 4602678819172646912] w fun e w' => Wrote w [49, 112, 175, 49] e w') := by
    intro w h
    have := lWrite_any false rep_half wr_half w h
    rwa [W_half] at this
  have HW2 : Hid (∀ w, TzTab w → Calls Tryd.prog 10 #[.float .f64 13837309855095848960] w fun e w' => Wrote w [175, 51] e w') := by
    intro w h
    have := lWrite_any true (rep_unit (by omega)) wr_neg3 w h
    rwa [W_neg3] at this
  go_enter Tryd.func9, Tryd.ntmps9
  go_wp2_with fail
  refine (HR.out _ _ (runes_new w [51, 112, 52] 3)).mono ?_
  rintro e w' ⟨rfl, rfl⟩
  have hb1 : Below w.heap.size w (w.alloc (.cells #[.int .i32 51, .int .i32 112, .int .i32 52] 21)) := (Below.refl _ _).alloc (Nat.le_refl _) _
  go_wp2_with fail
  refine (HW1.out _ (HT.out.below hb1)).mono ?_
  rintro e w2 ⟨v, rfl, ho2, hb2⟩
  have c2 := conv_runes ho2.runes
  rw [text_half] at c2
  have hb2' := hb1.trans (hb2.mono hb1.size)
  clear ho2 hb1 hb2
  go_wp2_with fail
  refine (HW2.out _ (HT.out.below hb2')).mono ?_
  rintro e w3 ⟨v3, rfl, ho3, hb3⟩
  have c3 := conv_runes ho3.runes
  rw [text_neg3] at c3
  have hb3' := hb2'.trans (hb3.mono hb2'.size)
  clear ho3 hb2' hb3 c2
  go_wp2
  go_ret
  exact ⟨rfl, hb3'⟩
end Go.Proofs.YtopdkllbemgmlaaDoor
