/- The walk of scan.line, whatever comes of it. Conditions: as each theorem says. -/
import Derived.Test.YtdddmehchfnppaaGreatDoorMg39
namespace Go.Proofs.YtdddmehchfnppaaGreatDoor
open Go Go.RowKit Go.Proofs Fl

/-- what a line tells: the row holds what its elements come to up to each place, or that it doesn't go -/
def LineO (w : World) (B g T at' n step : Nat) (q : Int) (x Z F : Nat → Int) (e : Ending) (w' : World) : Prop :=
  (LineR w B g T at' n step Z F e w' ∧ (q = 1 ∨ q = 2 ∨ q = 5 ∨ q = 6) ∧ (q = 1 ∨ q = 2 → ∀ i, i ≤ n → Good (sF x i))) ∨ (e = .returned (.bool false) ∧ Only g w w')
theorem sF_step {x : Nat → Int} {i : Nat} (h : ∀ j, j ≤ i → Good (sF x j)) (h2 : Good (sF x (i + 1))) : ∀ j, j ≤ i + 1 → Good (sF x j) := fun j hj => by
  by_cases e : j = i + 1
  · rw [e]; exact h2
  · exact h j (by omega)
theorem sF_start (x : Nat → Int) : ∀ j, j ≤ 0 → Good (sF x j) := fun j hj => by
  obtain rfl : j = 0 := by omega
  show Good 0
  exact ⟨by decide, by decide⟩
theorem good_abs {x : Int} (h : Good x) : Good (max x (-x)) := by
  obtain ⟨h1, h2⟩ := h
  unfold Good
  omega
theorem wrap_sum {a b : Int} (ha : Good a) (hb : Good b) : IntKind.i64.wrap (a + b) = a + b := by
  obtain ⟨h1, h2⟩ := ha
  obtain ⟨h3, h4⟩ := hb
  rw [IntKind.wrap_i64]
  omega

set_option maxRecDepth 100000 in
set_option maxHeartbeats 2000000 in
theorem line_all1 (b o0 c T g B at' n step : Nat) (L Z F x : Nat → Int) (w : World) (hT : T ≤ 1000000) (hn : n ≤ 1000)
    (hrow : Row64 w B g T F) (hbg : b ≠ g) (hc : ∀ i, i < T → w.cell? ⟨b, o0 + i, none⟩ = some (.int .i64 (L i))) (hidx : ∀ i, i < n → at' + i * step < T)
    (hLg : ∀ i, i < T → Good (L i)) (hx : ∀ i, i < n → L (at' + i * step) = x i) (hZ : ∀ i, i < n → Z (at' + i * step) = yF 1 x (i + 1)) :
    Calls Tryz.prog 72 #[.int .i64 1, .slice (some ⟨b, o0, none⟩) T c, .slice (some ⟨g, 0, none⟩) T T, .int .i64 (at' : Int), .int .i64 (n : Int), .int .i64 (step : Int)] w (LineO w B g T at' n step 1 x Z F) := by
  have HROW := Lib.hid hrow
  have HC := Lib.hid hc
  have HIX := Lib.hid hidx
  have HLG := Lib.hid hLg
  have HX := Lib.hid hx
  have HZ := Lib.hid hZ
  clear hrow hc hidx hLg hx hZ
  go_enter Tryz.func72, Tryz.ntmps72
  go_wp2_with fail
  go_loopw [13, 14, 19] (fun sz sm ii wr => ∃ i : Nat, i ≤ n ∧ ii = .int .i64 i ∧ sz = .int .i64 (sF x i) ∧ sm = .int .i64 (yF 1 x i) ∧ Only g w wr ∧ (∃ F', Row64 wr B g T F' ∧ (∀ j, j < i → F' (at' + j * step) = Z (at' + j * step)) ∧ ∀ j, F' j = F j ∨ F' j = Z j) ∧ ∀ j, j ≤ i → Good (sF x j)) (fun _ _ ii _ => n - (intOf ii).toNat)
  case atStart => exact ⟨0, Nat.zero_le _, rfl, rfl, rfl, Only.refl g w, ⟨F, HROW.out, fun j hj => absurd hj (Nat.not_lt_zero _), fun j => .inl rfl⟩, sF_start x⟩
  case round =>
    obtain ⟨i, hi, rfl, rfl, rfl, hon, ⟨F', hrow, hdone, hor⟩, hsg⟩ := hrel
    have HON := Lib.hid hon
    have HROW' := Lib.hid hrow
    have HDONE := Lib.hid hdone
    have HOR := Lib.hid hor
    have HSG := Lib.hid hsg
    clear hon hrow hdone hor hsg
    by_cases hlt : i < n
    · obtain ⟨Q, eQ⟩ : ∃ Q, Q = i * step := ⟨_, rfl⟩
      obtain ⟨I, eI⟩ : ∃ I, I = at' + Q := ⟨_, rfl⟩
      have hI : I < T := by rw [eI, eQ]; exact HIX.out i hlt
      have f1 : (i : Int) * (step : Int) = (Q : Int) := by rw [eQ]; push_cast; rfl
      have f2 : (at' : Int) + (Q : Int) = (I : Int) := by rw [eI]; push_cast; rfl
      have hci := HON.out.cell (HC.out I hI) hbg
      have hco := HROW'.out.cell hI
      have hfo := HROW'.out.frozen I
      have eI' : I = at' + i * step := by rw [eI, eQ]
      have HEI := Lib.hid eI'
      have hQ : Q ≤ 1000000 := by omega
      have hxi := HX.out i hlt
      have h3 := HZ.out i hlt
      have hgl := HLG.out I hI
      rw [← eI'] at hxi h3
      rw [hxi] at hci hgl
      have H3 := Lib.hid h3
      clear eQ eI eI' h3 hxi
      have gs := HSG.out i (Nat.le_refl _)
      have H2 := Lib.hid (yF_one (x := x) i)
      have HAI := Lib.hid (addInt_all (sF x i) (max (x i) (- x i)) gs (good_abs hgl))
      unfold OptR at HAI
      have HOK : Hid (okZ (sF x i + max (x i) (- x i)) = some (sF x (i + 1)) ∧ Good (sF x (i + 1)) ∨ okZ (sF x i + max (x i) (- x i)) = none) := by
        show _ ∨ _
        unfold okZ
        by_cases hg : goodB (sF x i + max (x i) (- x i)) = true
        · rw [if_pos hg]; exact .inl ⟨rfl, goodB_iff.1 hg⟩
        · rw [if_neg hg]; exact .inr rfl
      have hyw := yF_le (q := 1) (.inl rfl) x i
      obtain ⟨y1, y2⟩ := hyw
      obtain ⟨s1, s2⟩ := gs
      obtain ⟨l1, l2⟩ := hgl
      generalize okZ (sF x i + max (x i) (- x i)) = r at HAI HOK
      generalize hsx : sF x i = sx at *
      generalize hyx : yF 1 x i = yx at *
      generalize hxx : x i = xx at *
      have z1 : -9007199254740992 ≤ yx := by omega
      have z2 : yx ≤ 9007199254740992 := by omega
      clear y1 y2 hsx hyx hxx
      rcases HOK.out with ⟨rfl, hgn⟩ | rfl
      · have HGN := Lib.hid hgn
        clear HOK hgn
        go_wp2_with fail
        refine (HAI.out _).mono ?_
        rintro e w' ⟨rfl, rfl⟩
        go_wp2
        go_roundw
        case rel =>
          exact ⟨i + 1, by omega, by go_num, rfl, by rw [H2.out], HON.out.set I _, ⟨_, HROW'.out.put hI _, line_done (H2.out) H3.out HEI.out HDONE.out, line_or (H2.out) H3.out HOR.out⟩, sF_step HSG.out HGN.out⟩
        case measure => simp [intOf]; omega
      · clear HOK
        go_wp2_with fail
        refine (HAI.out _).mono ?_
        rintro e w' ⟨rfl, rfl⟩
        go_wp2
        go_ret
        exact .inr ⟨rfl, HON.out⟩
    · obtain rfl : i = n := by omega
      go_wp2
      go_ret
      exact .inl ⟨⟨rfl, HON.out, F', HROW'.out, HDONE.out, HOR.out⟩, .inl rfl, fun _ => HSG.out⟩

set_option maxRecDepth 100000 in
set_option maxHeartbeats 2000000 in
theorem line_all2 (b o0 c T g B at' n step : Nat) (L Z F x : Nat → Int) (w : World) (hT : T ≤ 1000000) (hn : n ≤ 1000)
    (hrow : Row64 w B g T F) (hbg : b ≠ g) (hc : ∀ i, i < T → w.cell? ⟨b, o0 + i, none⟩ = some (.int .i64 (L i))) (hidx : ∀ i, i < n → at' + i * step < T)
    (hLg : ∀ i, i < T → Good (L i)) (hx : ∀ i, i < n → L (at' + i * step) = x i) (hZ : ∀ i, i < n → Z (at' + i * step) = yF 2 x (i + 1)) :
    Calls Tryz.prog 72 #[.int .i64 2, .slice (some ⟨b, o0, none⟩) T c, .slice (some ⟨g, 0, none⟩) T T, .int .i64 (at' : Int), .int .i64 (n : Int), .int .i64 (step : Int)] w (LineO w B g T at' n step 2 x Z F) := by
  have HROW := Lib.hid hrow
  have HC := Lib.hid hc
  have HIX := Lib.hid hidx
  have HLG := Lib.hid hLg
  have HX := Lib.hid hx
  have HZ := Lib.hid hZ
  clear hrow hc hidx hLg hx hZ
  go_enter Tryz.func72, Tryz.ntmps72
  go_wp2_with fail
  go_loopw [13, 14, 19] (fun sz sm ii wr => ∃ i : Nat, i ≤ n ∧ ii = .int .i64 i ∧ sz = .int .i64 (sF x i) ∧ sm = .int .i64 (yF 2 x i) ∧ Only g w wr ∧ (∃ F', Row64 wr B g T F' ∧ (∀ j, j < i → F' (at' + j * step) = Z (at' + j * step)) ∧ ∀ j, F' j = F j ∨ F' j = Z j) ∧ ∀ j, j ≤ i → Good (sF x j)) (fun _ _ ii _ => n - (intOf ii).toNat)
  case atStart => exact ⟨0, Nat.zero_le _, rfl, rfl, rfl, Only.refl g w, ⟨F, HROW.out, fun j hj => absurd hj (Nat.not_lt_zero _), fun j => .inl rfl⟩, sF_start x⟩
  case round =>
    obtain ⟨i, hi, rfl, rfl, rfl, hon, ⟨F', hrow, hdone, hor⟩, hsg⟩ := hrel
    have HON := Lib.hid hon
    have HROW' := Lib.hid hrow
    have HDONE := Lib.hid hdone
    have HOR := Lib.hid hor
    have HSG := Lib.hid hsg
    clear hon hrow hdone hor hsg
    by_cases hlt : i < n
    · obtain ⟨Q, eQ⟩ : ∃ Q, Q = i * step := ⟨_, rfl⟩
      obtain ⟨I, eI⟩ : ∃ I, I = at' + Q := ⟨_, rfl⟩
      have hI : I < T := by rw [eI, eQ]; exact HIX.out i hlt
      have f1 : (i : Int) * (step : Int) = (Q : Int) := by rw [eQ]; push_cast; rfl
      have f2 : (at' : Int) + (Q : Int) = (I : Int) := by rw [eI]; push_cast; rfl
      have hci := HON.out.cell (HC.out I hI) hbg
      have hco := HROW'.out.cell hI
      have hfo := HROW'.out.frozen I
      have eI' : I = at' + i * step := by rw [eI, eQ]
      have HEI := Lib.hid eI'
      have hQ : Q ≤ 1000000 := by omega
      have hxi := HX.out i hlt
      have h3 := HZ.out i hlt
      have hgl := HLG.out I hI
      rw [← eI'] at hxi h3
      rw [hxi] at hci hgl
      have H3 := Lib.hid h3
      clear eQ eI eI' h3 hxi
      have gs := HSG.out i (Nat.le_refl _)
      have H2 := Lib.hid (yF_two (x := x) i)
      rcases Nat.mod_two_eq_zero_or_one i with hp | hp
      · rw [if_neg (by omega)] at H2
        have hbit : bits .and .i64 (i : Int) 1 = 0 := by rw [and_one_i64 i (by omega), hp]; rfl
        clear hp
        have HAI := Lib.hid (addInt_all (sF x i) (max (x i) (- x i)) gs (good_abs hgl))
        unfold OptR at HAI
        have HOK : Hid (okZ (sF x i + max (x i) (- x i)) = some (sF x (i + 1)) ∧ Good (sF x (i + 1)) ∨ okZ (sF x i + max (x i) (- x i)) = none) := by
          show _ ∨ _
          unfold okZ
          by_cases hg : goodB (sF x i + max (x i) (- x i)) = true
          · rw [if_pos hg]; exact .inl ⟨rfl, goodB_iff.1 hg⟩
          · rw [if_neg hg]; exact .inr rfl
        have hyw := yF_le (q := 2) (.inr rfl) x i
        obtain ⟨y1, y2⟩ := hyw
        obtain ⟨s1, s2⟩ := gs
        obtain ⟨l1, l2⟩ := hgl
        generalize okZ (sF x i + max (x i) (- x i)) = r at HAI HOK
        generalize hsx : sF x i = sx at *
        generalize hyx : yF 2 x i = yx at *
        generalize hxx : x i = xx at *
        have z1 : -9007199254740992 ≤ yx := by omega
        have z2 : yx ≤ 9007199254740992 := by omega
        clear y1 y2 hsx hyx hxx
        rcases HOK.out with ⟨rfl, hgn⟩ | rfl
        · have HGN := Lib.hid hgn
          clear HOK hgn
          go_wp2_with fail
          refine (HAI.out _).mono ?_
          rintro e w' ⟨rfl, rfl⟩
          go_wp2
          go_roundw
          case rel =>
            exact ⟨i + 1, by omega, by go_num, rfl, by rw [H2.out], HON.out.set I _, ⟨_, HROW'.out.put hI _, line_done (H2.out) H3.out HEI.out HDONE.out, line_or (H2.out) H3.out HOR.out⟩, sF_step HSG.out HGN.out⟩
          case measure => simp [intOf]; omega
        · clear HOK
          go_wp2_with fail
          refine (HAI.out _).mono ?_
          rintro e w' ⟨rfl, rfl⟩
          go_wp2
          go_ret
          exact .inr ⟨rfl, HON.out⟩
      · rw [if_pos hp] at H2
        have hbit : bits .and .i64 (i : Int) 1 = 1 := by rw [and_one_i64 i (by omega), hp]; rfl
        clear hp
        have HAI := Lib.hid (addInt_all (sF x i) (max (x i) (- x i)) gs (good_abs hgl))
        unfold OptR at HAI
        have HOK : Hid (okZ (sF x i + max (x i) (- x i)) = some (sF x (i + 1)) ∧ Good (sF x (i + 1)) ∨ okZ (sF x i + max (x i) (- x i)) = none) := by
          show _ ∨ _
          unfold okZ
          by_cases hg : goodB (sF x i + max (x i) (- x i)) = true
          · rw [if_pos hg]; exact .inl ⟨rfl, goodB_iff.1 hg⟩
          · rw [if_neg hg]; exact .inr rfl
        have hyw := yF_le (q := 2) (.inr rfl) x i
        obtain ⟨y1, y2⟩ := hyw
        obtain ⟨s1, s2⟩ := gs
        obtain ⟨l1, l2⟩ := hgl
        generalize okZ (sF x i + max (x i) (- x i)) = r at HAI HOK
        generalize hsx : sF x i = sx at *
        generalize hyx : yF 2 x i = yx at *
        generalize hxx : x i = xx at *
        have z1 : -9007199254740992 ≤ yx := by omega
        have z2 : yx ≤ 9007199254740992 := by omega
        clear y1 y2 hsx hyx hxx
        rcases HOK.out with ⟨rfl, hgn⟩ | rfl
        · have HGN := Lib.hid hgn
          clear HOK hgn
          go_wp2_with fail
          rw [Int.max_comm]
          refine (HAI.out _).mono ?_
          rintro e w' ⟨rfl, rfl⟩
          go_wp2
          go_roundw
          case rel =>
            exact ⟨i + 1, by omega, by go_num, rfl, by rw [H2.out, Int.sub_eq_add_neg], HON.out.set I _, ⟨_, HROW'.out.put hI _, line_done (H2.out.trans Int.sub_eq_add_neg) H3.out HEI.out HDONE.out, line_or (H2.out.trans Int.sub_eq_add_neg) H3.out HOR.out⟩, sF_step HSG.out HGN.out⟩
          case measure => simp [intOf]; omega
        · clear HOK
          go_wp2_with fail
          rw [Int.max_comm]
          refine (HAI.out _).mono ?_
          rintro e w' ⟨rfl, rfl⟩
          go_wp2
          go_ret
          exact .inr ⟨rfl, HON.out⟩
    · obtain rfl : i = n := by omega
      go_wp2
      go_ret
      exact .inl ⟨⟨rfl, HON.out, F', HROW'.out, HDONE.out, HOR.out⟩, .inr (.inl rfl), fun _ => HSG.out⟩

set_option maxRecDepth 100000 in
set_option maxHeartbeats 2000000 in
theorem line_all5 (b o0 c T g B at' n step : Nat) (L Z F x : Nat → Int) (w : World) (hT : T ≤ 1000000) (hn : n ≤ 1000)
    (hrow : Row64 w B g T F) (hbg : b ≠ g) (hc : ∀ i, i < T → w.cell? ⟨b, o0 + i, none⟩ = some (.int .i64 (L i))) (hidx : ∀ i, i < n → at' + i * step < T)
    (hLg : ∀ i, i < T → Good (L i)) (hx : ∀ i, i < n → L (at' + i * step) = x i) (hZ : ∀ i, i < n → Z (at' + i * step) = yF 5 x (i + 1)) :
    Calls Tryz.prog 72 #[.int .i64 5, .slice (some ⟨b, o0, none⟩) T c, .slice (some ⟨g, 0, none⟩) T T, .int .i64 (at' : Int), .int .i64 (n : Int), .int .i64 (step : Int)] w (LineO w B g T at' n step 5 x Z F) := by
  have HROW := Lib.hid hrow
  have HC := Lib.hid hc
  have HIX := Lib.hid hidx
  have HLG := Lib.hid hLg
  have HX := Lib.hid hx
  have HZ := Lib.hid hZ
  clear hrow hc hidx hLg hx hZ
  go_enter Tryz.func72, Tryz.ntmps72
  go_wp2_with fail
  go_loopw [13, 14, 19] (fun sz sm ii wr => ∃ i : Nat, i ≤ n ∧ ii = .int .i64 i ∧ sz = .int .i64 0 ∧ sm = .int .i64 (yF 5 x i) ∧ Only g w wr ∧ (∃ F', Row64 wr B g T F' ∧ (∀ j, j < i → F' (at' + j * step) = Z (at' + j * step)) ∧ ∀ j, F' j = F j ∨ F' j = Z j) ∧ True) (fun _ _ ii _ => n - (intOf ii).toNat)
  case atStart => exact ⟨0, Nat.zero_le _, rfl, rfl, rfl, Only.refl g w, ⟨F, HROW.out, fun j hj => absurd hj (Nat.not_lt_zero _), fun j => .inl rfl⟩, trivial⟩
  case round =>
    obtain ⟨i, hi, rfl, rfl, rfl, hon, ⟨F', hrow, hdone, hor⟩, hsg⟩ := hrel
    have HON := Lib.hid hon
    have HROW' := Lib.hid hrow
    have HDONE := Lib.hid hdone
    have HOR := Lib.hid hor
    have HSG := Lib.hid hsg
    clear hon hrow hdone hor hsg
    by_cases hlt : i < n
    · obtain ⟨Q, eQ⟩ : ∃ Q, Q = i * step := ⟨_, rfl⟩
      obtain ⟨I, eI⟩ : ∃ I, I = at' + Q := ⟨_, rfl⟩
      have hI : I < T := by rw [eI, eQ]; exact HIX.out i hlt
      have f1 : (i : Int) * (step : Int) = (Q : Int) := by rw [eQ]; push_cast; rfl
      have f2 : (at' : Int) + (Q : Int) = (I : Int) := by rw [eI]; push_cast; rfl
      have hci := HON.out.cell (HC.out I hI) hbg
      have hco := HROW'.out.cell hI
      have hfo := HROW'.out.frozen I
      have eI' : I = at' + i * step := by rw [eI, eQ]
      have HEI := Lib.hid eI'
      have hQ : Q ≤ 1000000 := by omega
      have hxi := HX.out i hlt
      have h3 := HZ.out i hlt
      have hgl := HLG.out I hI
      rw [← eI'] at hxi h3
      rw [hxi] at hci hgl
      have H3 := Lib.hid h3
      clear eQ eI eI' h3 hxi
      have H2 := Lib.hid (yF_five (x := x) i)
      by_cases h0 : i = 0
      · rw [if_pos (.inl h0)] at H2
        have e0 : ((i : Int) == 0) = true := by simp; exact h0
        generalize x i = xx at *
        generalize yF 5 x i = yx at *
        clear h0
        go_wp2
        go_roundw
        case rel => exact ⟨i + 1, by omega, by go_num, rfl, by rw [H2.out], HON.out.set I _, ⟨_, HROW'.out.put hI _, line_done H2.out H3.out HEI.out HDONE.out, line_or H2.out H3.out HOR.out⟩, trivial⟩
        case measure => simp [intOf]; omega
      · have e0 : ((i : Int) == 0) = false := by simp; omega
        by_cases hcmp : yF 5 x i < x i
        · rw [if_pos (.inr hcmp)] at H2
          generalize x i = xx at *
          generalize yF 5 x i = yx at *
          clear h0
          go_wp2
          go_roundw
          case rel => exact ⟨i + 1, by omega, by go_num, rfl, by rw [H2.out], HON.out.set I _, ⟨_, HROW'.out.put hI _, line_done H2.out H3.out HEI.out HDONE.out, line_or H2.out H3.out HOR.out⟩, trivial⟩
          case measure => simp [intOf]; omega
        · rw [if_neg (fun e => e.elim h0 hcmp)] at H2
          generalize x i = xx at *
          generalize yF 5 x i = yx at *
          clear h0
          go_wp2
          go_roundw
          case rel => exact ⟨i + 1, by omega, by go_num, rfl, by rw [H2.out], HON.out.set I _, ⟨_, HROW'.out.put hI _, line_done H2.out H3.out HEI.out HDONE.out, line_or H2.out H3.out HOR.out⟩, trivial⟩
          case measure => simp [intOf]; omega
    · obtain rfl : i = n := by omega
      go_wp2
      go_ret
      exact .inl ⟨⟨rfl, HON.out, F', HROW'.out, HDONE.out, HOR.out⟩, .inr (.inr (.inl rfl)), fun h => by rcases h with h | h <;> cases h⟩

set_option maxRecDepth 100000 in
set_option maxHeartbeats 2000000 in
theorem line_all6 (b o0 c T g B at' n step : Nat) (L Z F x : Nat → Int) (w : World) (hT : T ≤ 1000000) (hn : n ≤ 1000)
    (hrow : Row64 w B g T F) (hbg : b ≠ g) (hc : ∀ i, i < T → w.cell? ⟨b, o0 + i, none⟩ = some (.int .i64 (L i))) (hidx : ∀ i, i < n → at' + i * step < T)
    (hLg : ∀ i, i < T → Good (L i)) (hx : ∀ i, i < n → L (at' + i * step) = x i) (hZ : ∀ i, i < n → Z (at' + i * step) = yF 6 x (i + 1)) :
    Calls Tryz.prog 72 #[.int .i64 6, .slice (some ⟨b, o0, none⟩) T c, .slice (some ⟨g, 0, none⟩) T T, .int .i64 (at' : Int), .int .i64 (n : Int), .int .i64 (step : Int)] w (LineO w B g T at' n step 6 x Z F) := by
  have HROW := Lib.hid hrow
  have HC := Lib.hid hc
  have HIX := Lib.hid hidx
  have HLG := Lib.hid hLg
  have HX := Lib.hid hx
  have HZ := Lib.hid hZ
  clear hrow hc hidx hLg hx hZ
  go_enter Tryz.func72, Tryz.ntmps72
  go_wp2_with fail
  go_loopw [13, 14, 19] (fun sz sm ii wr => ∃ i : Nat, i ≤ n ∧ ii = .int .i64 i ∧ sz = .int .i64 0 ∧ sm = .int .i64 (yF 6 x i) ∧ Only g w wr ∧ (∃ F', Row64 wr B g T F' ∧ (∀ j, j < i → F' (at' + j * step) = Z (at' + j * step)) ∧ ∀ j, F' j = F j ∨ F' j = Z j) ∧ True) (fun _ _ ii _ => n - (intOf ii).toNat)
  case atStart => exact ⟨0, Nat.zero_le _, rfl, rfl, rfl, Only.refl g w, ⟨F, HROW.out, fun j hj => absurd hj (Nat.not_lt_zero _), fun j => .inl rfl⟩, trivial⟩
  case round =>
    obtain ⟨i, hi, rfl, rfl, rfl, hon, ⟨F', hrow, hdone, hor⟩, hsg⟩ := hrel
    have HON := Lib.hid hon
    have HROW' := Lib.hid hrow
    have HDONE := Lib.hid hdone
    have HOR := Lib.hid hor
    have HSG := Lib.hid hsg
    clear hon hrow hdone hor hsg
    by_cases hlt : i < n
    · obtain ⟨Q, eQ⟩ : ∃ Q, Q = i * step := ⟨_, rfl⟩
      obtain ⟨I, eI⟩ : ∃ I, I = at' + Q := ⟨_, rfl⟩
      have hI : I < T := by rw [eI, eQ]; exact HIX.out i hlt
      have f1 : (i : Int) * (step : Int) = (Q : Int) := by rw [eQ]; push_cast; rfl
      have f2 : (at' : Int) + (Q : Int) = (I : Int) := by rw [eI]; push_cast; rfl
      have hci := HON.out.cell (HC.out I hI) hbg
      have hco := HROW'.out.cell hI
      have hfo := HROW'.out.frozen I
      have eI' : I = at' + i * step := by rw [eI, eQ]
      have HEI := Lib.hid eI'
      have hQ : Q ≤ 1000000 := by omega
      have hxi := HX.out i hlt
      have h3 := HZ.out i hlt
      have hgl := HLG.out I hI
      rw [← eI'] at hxi h3
      rw [hxi] at hci hgl
      have H3 := Lib.hid h3
      clear eQ eI eI' h3 hxi
      have H2 := Lib.hid (yF_six (x := x) i)
      by_cases h0 : i = 0
      · rw [if_pos (.inl h0)] at H2
        have e0 : ((i : Int) == 0) = true := by simp; exact h0
        generalize x i = xx at *
        generalize yF 6 x i = yx at *
        clear h0
        go_wp2
        go_roundw
        case rel => exact ⟨i + 1, by omega, by go_num, rfl, by rw [H2.out], HON.out.set I _, ⟨_, HROW'.out.put hI _, line_done H2.out H3.out HEI.out HDONE.out, line_or H2.out H3.out HOR.out⟩, trivial⟩
        case measure => simp [intOf]; omega
      · have e0 : ((i : Int) == 0) = false := by simp; omega
        by_cases hcmp : x i < yF 6 x i
        · rw [if_pos (.inr hcmp)] at H2
          generalize x i = xx at *
          generalize yF 6 x i = yx at *
          clear h0
          go_wp2
          go_roundw
          case rel => exact ⟨i + 1, by omega, by go_num, rfl, by rw [H2.out], HON.out.set I _, ⟨_, HROW'.out.put hI _, line_done H2.out H3.out HEI.out HDONE.out, line_or H2.out H3.out HOR.out⟩, trivial⟩
          case measure => simp [intOf]; omega
        · rw [if_neg (fun e => e.elim h0 hcmp)] at H2
          generalize x i = xx at *
          generalize yF 6 x i = yx at *
          clear h0
          go_wp2
          go_roundw
          case rel => exact ⟨i + 1, by omega, by go_num, rfl, by rw [H2.out], HON.out.set I _, ⟨_, HROW'.out.put hI _, line_done H2.out H3.out HEI.out HDONE.out, line_or H2.out H3.out HOR.out⟩, trivial⟩
          case measure => simp [intOf]; omega
    · obtain rfl : i = n := by omega
      go_wp2
      go_ret
      exact .inl ⟨⟨rfl, HON.out, F', HROW'.out, HDONE.out, HOR.out⟩, .inr (.inr (.inr rfl)), fun h => by rcases h with h | h <;> cases h⟩

set_option maxRecDepth 100000 in
set_option maxHeartbeats 2000000 in
theorem line_other (q : Int) (h1 : q ≠ 1) (h2 : q ≠ 2) (h5 : q ≠ 5) (h6 : q ≠ 6) (b o0 c T g at' n step : Nat) (z : Int) (v : Value) (w : World) (hT : T ≤ 1000000) (hn1 : 1 ≤ n)
    (hc : w.cell? ⟨b, o0 + at', none⟩ = some (.int .i64 z)) (hidx : at' < T) :
    Calls Tryz.prog 72 #[.int .i64 q, .slice (some ⟨b, o0, none⟩) T c, v, .int .i64 (at' : Int), .int .i64 (n : Int), .int .i64 (step : Int)] w fun e w' => e = .returned (.bool false) ∧ Only g w w' := by
  have n1 : (q == 1) = false := by simpa using h1
  have n2 : (q == 2) = false := by simpa using h2
  have n5 : (q == 5) = false := by simpa using h5
  have n6 : (q == 6) = false := by simpa using h6
  clear h1 h2 h5 h6
  go_enter Tryz.func72, Tryz.ntmps72
  go_wp2_with fail
  go_loopw [13, 14, 19] (fun sz sm ii wr => sz = .int .i64 0 ∧ sm = .int .i64 0 ∧ ii = .int .i64 0 ∧ wr = w) (fun _ _ _ _ => 0)
  case atStart => exact ⟨rfl, rfl, rfl, rfl⟩
  case round =>
    obtain ⟨rfl, rfl, rfl, rfl⟩ := hrel
    go_wp2
    go_ret
    exact ⟨rfl, Only.refl _ _⟩

end Go.Proofs.YtdddmehchfnppaaGreatDoor
