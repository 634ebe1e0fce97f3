/- The walk of lit.write. Conditions: as each theorem says. -/
import Derived.Test.YtopdkllbemgmlaaDoorMem
import Derived.Test.YtopdkllbemgmlaaDoorWrt
import Derived.Deep.DeepMust
namespace Go.Proofs.YtopdkllbemgmlaaDoor
open Go Go.RowKit Go.Proofs Fl

/-- a row of runes in new memory -/
def Wrote (w0 : World) (l : List Int) (e : Ending) (w' : World) : Prop :=
  ∃ v, e = .returned v ∧ OwnR w' w0.heap.size v l ∧ Below w0.heap.size w0 w'

theorem dec_char (k : Nat) : IntKind.i32.wrap ((48 : Int) + (k : Int) % 10) = 48 + (k : Int) % 10 := by
  have : 0 ≤ (k : Int) % 10 := by omega
  have : (k : Int) % 10 < 10 := by omega
  simp [IntKind.wrap, IntKind.bits, IntKind.signed]; omega

/-- the second loop's list: what has been written behind it, of the digits from place t on -/
theorem rev_drop {D : List Int} {t : Nat} (h : t < D.length) : (D.drop (t + 1)).reverse ++ [D[t]] = (D.drop t).reverse := by
  rw [List.drop_eq_getElem_cons h, List.reverse_cons]

set_option maxRecDepth 100000 in
set_option maxHeartbeats 1000000 in
theorem write_pos (m : Nat) (hm : m ≤ 9007199254740992) (w : World) :
    Calls Tryd.prog 24 #[.int .i64 m] w fun e w' => Wrote w (decR m).reverse e w' := by
  generalize hD : decR m = D
  have HD := Lib.hid hD
  have hlen : D.length ≤ 16 := by
    rw [← hD]
    rcases decR_len 16 m (by omega) with h | h
    · exact h
    · omega
  have hne : D ≠ [] := by rw [← hD]; exact decR_ne m
  have HNE := Lib.hid hne
  clear hD hne
  have hdec : decide ((m : Int) < 0) = false := decide_eq_false (by omega)
  obtain ⟨B, hB⟩ : ∃ B, B = w.heap.size := ⟨_, rfl⟩
  have HB := Lib.hid hB
  have HS : Hid (∀ e w', Wrote w D.reverse e w' = ∃ v, e = .returned v ∧ OwnR w' B v D.reverse ∧ Below B w w') := by rw [hB]; exact fun _ _ => rfl
  clear hB
  go_enter Tryd.func24, Tryd.ntmps24
  go_wp2
  go_loopw [0, 4] (fun n d wr => ∃ (k : Nat) (ds : List Int), n = .int .i64 k ∧ OwnR wr B d ds ∧ Hid (D = ds ++ decR k) ∧ Below B w wr ∧ k ≤ 9007199254740992 ∧ Hid (OwnR wr B (.slice none 0 0) [] ∧ Apart d (.slice none 0 0))) (fun n _ _ => (intOf n).toNat)
  case atStart => exact ⟨m, [], rfl, OwnR.nil w B, HD.out.symm, Below.refl B w, hm, ⟨OwnR.nil w B, .inl rfl⟩⟩
  case round =>
    obtain ⟨k, ds, rfl, hown, hq, hbel, hk, hla⟩ := hrel
    clear hdec
    have hch := dec_char k
    have hdl : ds.length ≤ 16 := by
      have := congrArg List.length hq.out
      rw [List.length_append] at this; omega
    have HOWN := Lib.hid hown
    have hl1 : ds.length ≤ 1099511627776 := by omega
    have hBw : B ≤ wr.heap.size := by rw [HB.out]; exact hbel.size
    clear hown
    by_cases h10 : k / 10 = 0
    · have HE : Hid (D = ds ++ [(48 : Int) + (k : Int) % 10]) := by
        show _ = _
        rw [hq.out, decR_last h10]; simp
      have hz : ((k : Int) / 10 == 0) = true := beq_iff_eq.2 (by omega)
      clear hq h10
      go_wp2_with (at_builtin; refine wpList_app1 rfl (.tmp 13) (.tmp 18) rfl B _ ds rfl HOWN.out (48 + (k : Int) % 10) rfl hl1 hBw ?_; intro v' w1 hv' hb' hk' hs'; rw [← HE.out] at hv'; have HV := Lib.hid hv'; have HB' := Lib.hid (hb' w hbel); have HK' := Lib.hid (hk' (.slice none 0 0) [] hla.out.1 hla.out.2); clear hb' hk' hv'; obtain ⟨g, cc, hvv, hcl⟩ := HV.out.form HNE.out; rw [hvv]; have HCL := Lib.hid hcl; have HVV := Lib.hid hvv; clear hcl hvv)
      go_loopw [3, 5] (fun l i wr2 => ∃ (t : Nat) (u : Int), t ≤ D.length ∧ i = .int .i64 u ∧ Hid (u = (t : Int) - 1) ∧ OwnR wr2 B l ([] ++ (D.drop t).reverse) ∧ Hid (OwnR wr2 B v' D ∧ Apart l v') ∧ Below B w wr2) (fun _ i _ => (intOf i + 1).toNat)
      case atStart =>
        refine ⟨D.length, _, Nat.le_refl _, rfl, rfl, ?_, ⟨HV.out, HK'.out.2.symm⟩, HB'.out⟩
        rw [List.drop_length]; exact HK'.out.1
      case round =>
        obtain ⟨t, u, ht, rfl, hu, hl, hda, hbl⟩ := hrel
        have HL := Lib.hid hl
        have hBw2 : B ≤ wr.heap.size := by rw [HB.out]; exact hbl.size
        clear hl
        by_cases h0 : t = 0
        · have hu0 : u < 0 := by have := hu.out; omega
          have HE : Hid (D.drop t = D) := by show _ = _; rw [h0]; rfl
          clear hu h0
          go_wp2
          go_ret
          rw [HS.out]
          exact ⟨_, rfl, by rw [← HE.out]; exact HL.out, hbl⟩
        · obtain ⟨t', rfl⟩ : ∃ t', t = t' + 1 := ⟨t - 1, by omega⟩
          obtain rfl : u = (t' : Int) := by have := hu.out; omega
          have hlt : t' < D.length := by omega
          have hcell := HCL.out wr B hda.out.1 t' hlt
          have HE := Lib.hid (rev_drop hlt)
          have hl2 : ([] ++ (D.drop (t' + 1)).reverse).length ≤ 1099511627776 := by simp; omega
          clear hu h0
          generalize D[t'] = x at *
          go_wp2_with (at_builtin; refine wpList_app1 rfl (.tmp 31) (.tmp 36) rfl B _ ([] ++ (D.drop (t' + 1)).reverse) rfl HL.out x rfl hl2 hBw2 ?_; intro l' w2 hv' hb' hk' hs'; rw [List.append_assoc, HE.out] at hv'; have HV2 := Lib.hid hv'; have HB2 := Lib.hid (hb' w hbl); have HK2 := Lib.hid (hk' v' D hda.out.1 hda.out.2); clear hb' hk' hv')
          go_roundw
          case rel => exact ⟨t', _, by omega, rfl, rfl, HV2.out, HK2, HB2.out⟩
          case measure => simp [intOf]
    · have HE : Hid (D = (ds ++ [(48 : Int) + (k : Int) % 10]) ++ decR (k / 10)) := by
        show _ = _
        rw [hq.out, decR_next h10]; simp
      have hz : ((k : Int) / 10 == 0) = false := beq_eq_false_iff_ne.2 (by omega)
      clear hq
      go_wp2_with (at_builtin; refine wpList_app1 rfl (.tmp 13) (.tmp 18) rfl B _ ds rfl HOWN.out (48 + (k : Int) % 10) rfl hl1 hBw ?_; intro v' w1 hv' hb' hk' hs'; have HV := Lib.hid hv'; have HB' := Lib.hid (hb' w hbel); have HK' := Lib.hid (hk' (.slice none 0 0) [] hla.out.1 hla.out.2); clear hb' hk' hv')
      go_roundw
      case rel => exact ⟨k / 10, _, by go_num, HV.out, HE, HB'.out, by omega, HK'⟩
      case measure => simp [intOf]; omega

set_option maxRecDepth 100000 in
set_option maxHeartbeats 1000000 in
theorem write_neg (m : Nat) (hm0 : 0 < m) (hm : m ≤ 9007199254740992) (w : World) :
    Calls Tryd.prog 24 #[.int .i64 (-(m : Int))] w fun e w' => Wrote w (175 :: (decR m).reverse) e w' := by
  generalize hD : decR m = D
  have HD := Lib.hid hD
  have hlen : D.length ≤ 16 := by
    rw [← hD]
    rcases decR_len 16 m (by omega) with h | h
    · exact h
    · omega
  have hne : D ≠ [] := by rw [← hD]; exact decR_ne m
  have HNE := Lib.hid hne
  clear hD hne
  have hdec : decide (-(m : Int) < 0) = true := decide_eq_true (by omega)
  obtain ⟨B, hB⟩ : ∃ B, B = w.heap.size := ⟨_, rfl⟩
  have HB := Lib.hid hB
  have HS : Hid (∀ e w', Wrote w (175 :: D.reverse) e w' = ∃ v, e = .returned v ∧ OwnR w' B v (175 :: D.reverse) ∧ Below B w w') := by rw [hB]; exact fun _ _ => rfl
  clear hB
  go_enter Tryd.func24, Tryd.ntmps24
  have hBw0 : B ≤ w.heap.size := by rw [HB.out]; exact Nat.le_refl _
  go_wp2_with (at_builtin; refine wpList_app1 rfl (.tmp 8) (.tmp 9) rfl B _ [] rfl (OwnR.nil w B) 175 rfl (by simp) hBw0 ?_; intro l0 w0 hv' hb' hk' hs'; rw [List.nil_append] at hv'; have HL0 := Lib.hid hv'; have HB0 := Lib.hid (hb' w (Below.refl B w)); clear hb' hk' hv')
  go_loopw [0, 4] (fun n d wr => ∃ (k : Nat) (ds : List Int), n = .int .i64 k ∧ OwnR wr B d ds ∧ Hid (D = ds ++ decR k) ∧ Below B w wr ∧ k ≤ 9007199254740992 ∧ Hid (OwnR wr B l0 [175] ∧ Apart d l0)) (fun n _ _ => (intOf n).toNat)
  case atStart => exact ⟨m, [], by go_num, OwnR.nil _ B, HD.out.symm, HB0.out, hm, ⟨HL0.out, .inl rfl⟩⟩
  case round =>
    obtain ⟨k, ds, rfl, hown, hq, hbel, hk, hla⟩ := hrel
    clear hdec
    have hch := dec_char k
    have hdl : ds.length ≤ 16 := by
      have := congrArg List.length hq.out
      rw [List.length_append] at this; omega
    have HOWN := Lib.hid hown
    have hl1 : ds.length ≤ 1099511627776 := by omega
    have hBw : B ≤ wr.heap.size := by rw [HB.out]; exact hbel.size
    clear hown
    by_cases h10 : k / 10 = 0
    · have HE : Hid (D = ds ++ [(48 : Int) + (k : Int) % 10]) := by
        show _ = _
        rw [hq.out, decR_last h10]; simp
      have hz : ((k : Int) / 10 == 0) = true := beq_iff_eq.2 (by omega)
      clear hq h10
      go_wp2_with (at_builtin; refine wpList_app1 rfl (.tmp 13) (.tmp 18) rfl B _ ds rfl HOWN.out (48 + (k : Int) % 10) rfl hl1 hBw ?_; intro v' w1 hv' hb' hk' hs'; rw [← HE.out] at hv'; have HV := Lib.hid hv'; have HB' := Lib.hid (hb' w hbel); have HK' := Lib.hid (hk' l0 [175] hla.out.1 hla.out.2); clear hb' hk' hv'; obtain ⟨g, cc, hvv, hcl⟩ := HV.out.form HNE.out; rw [hvv]; have HCL := Lib.hid hcl; have HVV := Lib.hid hvv; clear hcl hvv)
      go_loopw [3, 5] (fun l i wr2 => ∃ (t : Nat) (u : Int), t ≤ D.length ∧ i = .int .i64 u ∧ Hid (u = (t : Int) - 1) ∧ OwnR wr2 B l ([175] ++ (D.drop t).reverse) ∧ Hid (OwnR wr2 B v' D ∧ Apart l v') ∧ Below B w wr2) (fun _ i _ => (intOf i + 1).toNat)
      case atStart =>
        refine ⟨D.length, _, Nat.le_refl _, rfl, rfl, ?_, ⟨HV.out, HK'.out.2.symm⟩, HB'.out⟩
        rw [List.drop_length]; exact HK'.out.1
      case round =>
        obtain ⟨t, u, ht, rfl, hu, hl, hda, hbl⟩ := hrel
        have HL := Lib.hid hl
        have hBw2 : B ≤ wr.heap.size := by rw [HB.out]; exact hbl.size
        clear hl
        by_cases h0 : t = 0
        · have hu0 : u < 0 := by have := hu.out; omega
          have HE : Hid (D.drop t = D) := by show _ = _; rw [h0]; rfl
          clear hu h0
          go_wp2
          go_ret
          rw [HS.out]
          exact ⟨_, rfl, by rw [← HE.out]; exact HL.out, hbl⟩
        · obtain ⟨t', rfl⟩ : ∃ t', t = t' + 1 := ⟨t - 1, by omega⟩
          obtain rfl : u = (t' : Int) := by have := hu.out; omega
          have hlt : t' < D.length := by omega
          have hcell := HCL.out wr B hda.out.1 t' hlt
          have HE := Lib.hid (rev_drop hlt)
          have hl2 : ([175] ++ (D.drop (t' + 1)).reverse).length ≤ 1099511627776 := by simp; omega
          clear hu h0
          generalize D[t'] = x at *
          go_wp2_with (at_builtin; refine wpList_app1 rfl (.tmp 31) (.tmp 36) rfl B _ ([175] ++ (D.drop (t' + 1)).reverse) rfl HL.out x rfl hl2 hBw2 ?_; intro l' w2 hv' hb' hk' hs'; rw [List.append_assoc, HE.out] at hv'; have HV2 := Lib.hid hv'; have HB2 := Lib.hid (hb' w hbl); have HK2 := Lib.hid (hk' v' D hda.out.1 hda.out.2); clear hb' hk' hv')
          go_roundw
          case rel => exact ⟨t', _, by omega, rfl, rfl, HV2.out, HK2, HB2.out⟩
          case measure => simp [intOf]
    · have HE : Hid (D = (ds ++ [(48 : Int) + (k : Int) % 10]) ++ decR (k / 10)) := by
        show _ = _
        rw [hq.out, decR_next h10]; simp
      have hz : ((k : Int) / 10 == 0) = false := beq_eq_false_iff_ne.2 (by omega)
      clear hq
      go_wp2_with (at_builtin; refine wpList_app1 rfl (.tmp 13) (.tmp 18) rfl B _ ds rfl HOWN.out (48 + (k : Int) % 10) rfl hl1 hBw ?_; intro v' w1 hv' hb' hk' hs'; have HV := Lib.hid hv'; have HB' := Lib.hid (hb' w hbel); have HK' := Lib.hid (hk' l0 [175] hla.out.1 hla.out.2); clear hb' hk' hv')
      go_roundw
      case rel => exact ⟨k / 10, _, by go_num, HV.out, HE, HB'.out, by omega, HK'⟩
      case measure => simp [intOf]; omega

theorem write_any (n : Int) (h1 : -9007199254740992 ≤ n) (h2 : n ≤ 9007199254740992) (w : World) :
    Calls Tryd.prog 24 #[.int .i64 n] w fun e w' => Wrote w (writeS n) e w' := by
  by_cases h : n < 0
  · obtain ⟨m, hm⟩ := Int.eq_ofNat_of_zero_le (show 0 ≤ -n by omega)
    obtain rfl : n = -(m : Int) := by omega
    have e : writeS (-(m : Int)) = [175] ++ (decR m).reverse := by
      unfold writeS; rw [if_pos h, show (-(m : Int)).natAbs = m by omega]
    rw [e]
    exact write_neg m (by omega) (by omega) w
  · obtain ⟨m, rfl⟩ := Int.eq_ofNat_of_zero_le (show 0 ≤ n by omega)
    have e : writeS (m : Int) = (decR m).reverse := by
      unfold writeS; rw [if_neg h, Int.natAbs_natCast, List.nil_append]
    rw [e]
    exact write_pos m (by omega) w
end Go.Proofs.YtopdkllbemgmlaaDoor
