/- The walk of lex.name. Conditions: at most 4096 signs. -/
import Derived.Test.YtnhnaallalgefaaDoorTok
import Derived.Test.YtnhnaallalgefaaDoorLexB
import Derived.Deep.DeepCutAuto
import Derived.Deep.CutBlock
namespace Go.Proofs.YtnhnaallalgefaaDoor
open Go Go.RowKit Go.Proofs Fl

/-- a word as a value; tv: its text -/
def tokV (t : Tok) (tv : Value) : Value := .agg #[.int .i64 t.kind, .int .i64 t.at_, .float .f64 t.num, tv, .string t.name, .int .i32 t.char]
/-- the empty word -/
def tok0V : Value := .agg #[.int .i64 0, .int .i64 0, .float .f64 0, .slice none 0 0, .string ⟨#[]⟩, .int .i32 0]

/-- what the cutting off of a word tells; B: the call's own blocks begin there -/
def TokTells (r : Option (Tok × Nat)) (i : Nat) (B : Nat) (e : Ending) (w' : World) : Prop :=
  match r with
  | some (t, k) => ∃ tv, e = .returned (.tuple #[tokV t tv, .int .i64 (k : Int), .bool true]) ∧ OwnR w' B tv t.text
  | none => e = .returned (.tuple #[tok0V, .int .i64 (i : Int), .bool false])

theorem TokTells.yes {r : Option (Tok × Nat)} {t : Tok} {k : Nat} (hr : r = some (t, k)) {i B : Nat} {w' : World} {tv : Value} (h : OwnR w' B tv t.text) :
    TokTells r i B (.returned (.tuple #[tokV t tv, .int .i64 (k : Int), .bool true])) w' := by rw [hr]; exact ⟨tv, rfl, h⟩
theorem TokTells.no {r : Option (Tok × Nat)} (hr : r = none) {i B : Nat} {w' : World} : TokTells r i B (.returned (.tuple #[tok0V, .int .i64 (i : Int), .bool false])) w' := by rw [hr]; exact rfl

theorem conv_runes2 {w : World} {v : Value} {l : List Int} (h : Runes w v l) :
    (convert 26 9 v).run Tryd.prog w = .ok (.string (runesBytes l)) w := by
  rcases h with ⟨a, c, rfl, rfl⟩ | ⟨b, o, n, c, rfl, hn, hc⟩
  · rw [run_convert_runes_string (P := Tryd.prog) w 26 9 21 _ _ _ Tryd.underlying26 Tryd.underlying21 Tryd.underlying9]
    cases a with
    | none => rfl
    | some a => exact run_runesToString w a 0 c [] (by simp [go_sem, loadCells, loadCellsFrom])
  · have := run_convert_runes (P := Tryd.prog) w 26 9 21 ⟨b, o, none⟩ n c l (by omega) Tryd.underlying26 Tryd.underlying21 Tryd.underlying9 (by
      intro j hj
      have e : (⟨b, o, none⟩ : Addr).add j = ⟨b, o + j, none⟩ := by
        unfold Addr.add; split
        · rename_i h0; subst h0; rfl
        · rfl
      rw [e, hc j hj]
      simp [List.getD, hj])
    rw [this, List.take_of_length_le (by omega)]

/-- a part of a slice of runes -/
theorem Runes.cut2 {w : World} {A : Option Addr} {n cc : Nat} {l : List Int} (h : Runes w (.slice A n cc) l) (hcc : n ≤ cc) {f t : Nat} (hf : f ≤ t) (ht : t ≤ l.length) :
    Runes w (sliced A f t cc 1) ((l.take t).drop f) := by
  unfold sliced
  rcases h with ⟨a, c, e, rfl⟩ | ⟨b, o, n', c, e, hn, hc⟩
  · left
    simp at ht
    subst ht
    exact ⟨_, _, by rw [Nat.zero_sub], by simp⟩
  · obtain ⟨rfl, rfl, rfl⟩ : A = some ⟨b, o, none⟩ ∧ n = n' ∧ cc = c := by simpa using e
    by_cases hft : f = t
    · subst hft
      left
      exact ⟨_, _, by rw [Nat.sub_self], List.drop_eq_nil_of_le (by simp; omega)⟩
    · right
      have hne : cc ≠ f := by omega
      refine ⟨b, o + f, t - f, cc - f, ?_, by simp; omega, fun i hi => ?_⟩
      · rw [if_neg hne]
        simp [Addr.add]
      · have hi2 : i < t - f := by simp at hi; omega
        have := hc (f + i) (by omega)
        rw [Nat.add_assoc, this]
        simp

set_option maxRecDepth 100000 in
theorem slice_run (A : Option Addr) (n cc f t : Nat) (hf : f ≤ t) (ht : t ≤ cc) (w : World) : (Instr.slice 26 (.slice A n cc) (some (.int .i64 (f : Int))) (some (.int .i64 (t : Int))) none).run Tryd.prog w = .ok (sliced A f t cc 1) w := by
  have := run_slice_lh (P := Tryd.prog) (w := w) 26 A n cc Tryd.underlying26 .i64 .i64 (f : Int) (t : Int) (by omega) (by omega) (by omega)
  rw [this]
  have h1 : (sizeOf (Tryd.prog.elem 26)).run Tryd.prog w = .ok 1 w := by kernel_rfl
  rw [h1]
  simp only [Result.andThen, Int.toNat_natCast]

/-- a float stored -/
theorem st_float (w : World) (a : Addr) (k : FloatKind) (x : Nat) (m : Mode) : (store a (.float k x) m).run Tryd.prog w = stored Tryd.prog w a (.float k x) m := run_store Tryd.prog w a _ m rfl

set_option maxRecDepth 100000 in
set_option maxHeartbeats 1600000 in
theorem name_walk (A : Option Addr) (n cc : Nat) (l : List Int) (i : Nat) (w : World) (hr : Runes w (.slice A n cc) l) (hcc : n ≤ cc) (hl : l.length ≤ 4096) (hi : i ≤ l.length) :
    Calls Tryd.prog 134 #[.slice A n cc, .int .i64 (i : Int)] w fun e w' => TokTells (nameS l i) i w.heap.size e w' ∧ Below w.heap.size w w' := by
  obtain ⟨A', cc', n', hv', hn, hcell⟩ := hr.opn
  obtain ⟨rfl, rfl, rfl⟩ : A = A' ∧ n = n' ∧ cc = cc' := by simpa using hv'
  have hbd := nameEnd_bd l _ i (Nat.le_refl _) hi
  have HOUT : Hid (∀ k, ¬ k < l.length → nameEnd l k = k) := fun k h => nameEnd_out h
  have HYES : Hid (∀ k, k < l.length → (letB (l.getD k 0) || digB (l.getD k 0)) = true → nameEnd l k = nameEnd l (k + 1)) := fun k h h2 => nameEnd_yes h h2
  have HNO : Hid (∀ k, k < l.length → (letB (l.getD k 0) || digB (l.getD k 0)) = false → nameEnd l k = k) := fun k h h2 => nameEnd_no h h2
  have HC := Lib.hid hcell
  have HN := Lib.hid hn
  have HR := Lib.hid hr
  obtain ⟨E, hE⟩ : ∃ E, E = nameEnd l i := ⟨_, rfl⟩
  have HE : Hid (nameEnd l i = E) := hE.symm
  have HNS : Hid (nameS l i = if 32 < E - i then none else some ({ kind := 3, at_ := i, name := seg l i E }, E)) := by rw [hE]; exact rfl
  rw [← hE] at hbd
  obtain ⟨hbd1, hbd2⟩ := hbd
  have hEn : E ≤ n := by omega
  have hin : i ≤ n := by omega
  have hn4 : n ≤ 4096 := by omega
  clear hE hv' hn hcell hr hi hbd2 hl
  have hEp : Hid (∀ k, k = E → Value.int .i64 (k : Int) = .int .i64 (E : Int)) := fun k h => by rw [h]
  go_enter Tryd.func134, Tryd.ntmps134
  go_upto_block 0 with fail
  have HB : Hid (Below w.heap.size w (w.alloc (.cells #[.int .i64 0, .int .i64 0, .float .f64 0, .slice none 0 0, .string ⟨#[]⟩, .int .i32 0] 136))) := (Below.refl _ w).alloc (Nat.le_refl _) _
  go_cut [7] from 8 (fun f wx => f = .int .i64 (E : Int) ∧ wx = w.alloc (.cells #[.int .i64 0, .int .i64 0, .float .f64 0, .slice none 0 0, .string ⟨#[]⟩, .int .i32 0] 136))
  case first =>
    generalize w.alloc (.cells #[.int .i64 0, .int .i64 0, .float .f64 0, .slice none 0 0, .string ⟨#[]⟩, .int .i32 0] 136) = W at *
    go_wp2_with fail
    go_loop [7] (fun f => ∃ k : Nat, k ≤ n ∧ f = .int .i64 (k : Int) ∧ Hid (nameEnd l k = E)) (fun f => n - (intOf f).toNat)
    case atStart => exact ⟨i, hin, rfl, HE.out⟩
    case round =>
      obtain ⟨k, hk, rfl, hkE⟩ := hrel
      by_cases hlt : k < n
      · have hkl : k < l.length := by have := HN.out; omega
        obtain ⟨b, o, rfl, hce⟩ := HC.out k hkl
        have hce2 := hce _ HB.out
        clear hce
        obtain ⟨x, hx⟩ : ∃ x, x = l.getD k 0 := ⟨_, rfl⟩
        rw [← hx] at hce2
        have HXX := Lib.hid hx
        clear hx
        have HLW : Hid (∀ w, Calls Tryd.prog 133 #[.int .i32 x] w fun e w' => e = .returned (.bool (letB x)) ∧ w = w') := letter_walk x
        have HDW : Hid (∀ w, Calls Tryd.prog 130 #[.int .i32 x] w fun e w' => e = .returned (.bool (digB x)) ∧ w = w') := digit_walk x
        cases hb : letB x with
        | true =>
          have HK : Hid (nameEnd l (k + 1) = E) := (HYES.out k hkl (by rw [← HXX.out, hb]; rfl)).symm.trans hkE.out
          rw [hb] at HLW
          clear hb hkE
          go_wp2_with fail
          refine (HLW.out _).mono ?_
          rintro e w' ⟨rfl, rfl⟩
          go_wp2
          go_round
          case rel => exact ⟨k + 1, by omega, by go_num, HK⟩
          case measure => simp [intOf]; omega
        | false =>
          rw [hb] at HLW
          cases hd : digB x with
          | true =>
            have HK : Hid (nameEnd l (k + 1) = E) := (HYES.out k hkl (by rw [← HXX.out, hb, hd]; rfl)).symm.trans hkE.out
            rw [hd] at HDW
            clear hb hd hkE
            go_wp2_with fail
            refine (HLW.out _).mono ?_
            rintro e w' ⟨rfl, rfl⟩
            go_wp2_with fail
            refine (HDW.out _).mono ?_
            rintro e w' ⟨rfl, rfl⟩
            go_wp2
            go_round
            case rel => exact ⟨k + 1, by omega, by go_num, HK⟩
            case measure => simp [intOf]; omega
          | false =>
            have HK : Hid (k = E) := (HNO.out k hkl (by rw [← HXX.out, hb, hd]; rfl)).symm.trans hkE.out
            rw [hd] at HDW
            clear hb hd hkE
            go_wp2_with fail
            refine (HLW.out _).mono ?_
            rintro e w' ⟨rfl, rfl⟩
            go_wp2_with fail
            refine (HDW.out _).mono ?_
            rintro e w' ⟨rfl, rfl⟩
            go_wp2
            go_meet
            exact ⟨hEp.out _ HK.out, rfl⟩
      · have HK : Hid (k = E) := (HOUT.out k (by have := HN.out; omega)).symm.trans hkE.out
        clear hkE
        go_wp2
        go_meet
        exact ⟨hEp.out _ HK.out, rfl⟩
  case rest =>
    obtain ⟨rfl, rfl⟩ := hcut
    by_cases h32 : 32 < E - i
    · have HF : Hid (nameS l i = none) := by unfold Hid; rw [HNS.out, if_pos h32]
      have h33 : (32 : Int) < (E : Int) - (i : Int) := by omega
      have hsf := st_float
      go_wp2
      refine bodyPost_ret (v := .tuple #[tok0V, .int .i64 (i : Int), .bool false]) (by simp [results, Tryd.results134, go_sem, tok0V]) rfl ⟨.no HF.out, HB.out⟩
    · have HF : Hid (nameS l i = some ({ kind := 3, at_ := i, name := seg l i E }, E)) := by unfold Hid; rw [HNS.out, if_neg h32]
      have h33 : ¬ (32 : Int) < (E : Int) - (i : Int) := by omega
      have hsf := st_float
      obtain ⟨VS, hVS⟩ : ∃ VS, VS = sliced A i E cc 1 := ⟨_, rfl⟩
      have hsl := slice_run A n cc i E hbd1 (by omega)
      rw [← hVS] at hsl
      have hcv : ∀ w', Below w.heap.size w w' → (convert 26 9 VS).run Tryd.prog w' = .ok (.string (seg l i E)) w' := fun w' hb => by
        rw [hVS]; exact conv_runes2 ((HR.out.below hb).cut2 hcc hbd1 (by have := HN.out; omega))
      have hcv2 := hcv _ HB.out
      clear hVS hcv
      go_wp2
      refine bodyPost_ret (v := .tuple #[tokV { kind := 3, at_ := i, name := seg l i E } (.slice none 0 0), .int .i64 (E : Int), .bool true]) (by simp [results, Tryd.results134, go_sem, tokV]) rfl ⟨.yes HF.out (OwnR.nil _ _), (Below.refl _ w).alloc (Nat.le_refl _) _⟩
end Go.Proofs.YtnhnaallalgefaaDoor
