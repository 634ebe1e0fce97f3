/- The walk of the statement ScanOthers. Conditions: the runes' length. -/
import Derived.Test.YtdddmehchfnppaaDoorAws
import Derived.Test.YtdddmehchfnppaaDoorRrn
namespace Go.Proofs.YtdddmehchfnppaaDoor
open Go Go.RowKit Go.Proofs Fl

set_option maxRecDepth 100000 in
set_option maxHeartbeats 1000000 in
theorem scanOthers_long (f : Int) (a : Option Addr) (n c : Nat) (w : World) (hn : 200 < n) :
    Calls Tryd.prog 6 #[.int .i64 f, .slice a n c] w fun e w' => e = .returned (.bool true) ∧ Below w.heap.size w w' := by
  go_enter Tryd.func6, Tryd.ntmps6
  go_wp2_with fail
  refine (awake_any14 _).mono ?_
  rintro e w1 ⟨rfl, hb⟩
  have HB := Lib.hid hb
  clear hb
  go_wp2
  go_ret
  exact ⟨rfl, HB.out⟩

set_option maxRecDepth 100000 in
set_option maxHeartbeats 1000000 in
theorem scanOthers_short (f : Int) (a : Option Addr) (n c : Nat) (l : List Int) (w : World) (hln : n = l.length) (hn : n ≤ 200) (hr : Reads1 w (.slice a n c) (l.map (.int .i32))) :
    Calls Tryd.prog 6 #[.int .i64 f, .slice a n c] w fun e w' => e = .returned (.bool true) ∧ Below w.heap.size w w' := by
  have HR := Lib.hid hr
  have HLN := Lib.hid hln
  have HCH := Lib.hid (chars_any hr (by omega))
  have n200 : ¬ 200 < n := by omega
  clear hr hln
  go_enter Tryd.func6, Tryd.ntmps6
  go_wp2_with fail
  refine HCH.out.mono ?_
  rintro e w1 ⟨u, rfl, ho, hb⟩
  obtain ⟨ua, uc, hu⟩ : ∃ a c, u = .slice a n c := by obtain ⟨a, c, e⟩ := ho.reads.len; rw [List.length_map, ← HLN.out] at e; exact ⟨a, c, e⟩
  subst hu
  have HB1 := Lib.hid hb
  have HU1 := Lib.hid ho.reads
  clear hb ho
  by_cases hk : knownB f = true
  · by_cases h1 : n ≤ 1
    · have n1 : (n : Int) ≤ 1 := by omega
      have HF := Lib.hid (fun W => scan_chars_one f hk vnil 0 vnil vnil vnil vnil ua n uc 1 n 1 (by omega) (by omega) (by omega) (by omega) rfl rfl rfl rfl rfl W)
      have HG := Lib.hid (fun W => scan_boxes_dom f hk vnil 0 vnil vnil vnil vnil vnil 0 1 1 (by omega) (by omega) (by omega) rfl W)
      have HK := Lib.hid (fun W => hk ▸ rknown_any f W)
      clear hk
      go_wp2_with fail
      refine (HF.out _).mono ?_
      rintro e w2 ⟨rfl, hb2⟩
      have HB2 := Lib.hid (bel_both HB1.out hb2)
      have HB2' := Lib.hid (bel_both HB2.out (bel1 w2 (.cells #[.int .i64 5, vnil, .int .i64 0, vnil, vnil, vnil, .slice ua n uc, vnil] 35)))
      have HX2 := Lib.hid (boxed_new w2 35 5 vnil 0 vnil vnil vnil (.slice ua n uc) vnil)
      have HU2 := Lib.hid ((HU1.out.below hb2).below (bel1 w2 (.cells #[.int .i64 5, vnil, .int .i64 0, vnil, vnil, vnil, .slice ua n uc, vnil] 35)))
      clear hb2
      go_wp2_with fail
      refine (boxes_nil _).mono ?_
      rintro e w3 ⟨rfl, hb3⟩
      have HB3 := Lib.hid (bel_both HB2'.out hb3)
      have HX3 := Lib.hid (HX2.out.below hb3)
      have HU3 := Lib.hid (HU2.out.below hb3)
      clear hb3
      go_wp2_with fail
      refine (HG.out _).mono ?_
      rintro e w4 ⟨rfl, hb4⟩
      have HB4 := Lib.hid (bel_both HB3.out hb4)
      have HX4 := Lib.hid (HX3.out.below hb4)
      have HB4' := Lib.hid (bel_both HB4.out (bel1 w4 (.cells #[.int .i64 0, vnil, .int .i64 0, vnil, vnil, vnil, vnil, vnil] 35)))
      have HX4' := Lib.hid (HX4.out.below (bel1 w4 (.cells #[.int .i64 0, vnil, .int .i64 0, vnil, vnil, vnil, vnil, vnil] 35)))
      have HU4 := Lib.hid ((HU3.out.below hb4).below (bel1 w4 (.cells #[.int .i64 0, vnil, .int .i64 0, vnil, vnil, vnil, vnil, vnil] 35)))
      clear hb4
      go_wp2_with fail
      refine (HK.out _).mono ?_
      rintro e w5 ⟨rfl, hw⟩
      rw [hw] at HB4' HX4' HU4
      clear hw
      have HT := Lib.hid (text_any vnil 0 vnil vnil vnil vnil HU4.out (by rw [← HLN.out]; omega))
      obtain ⟨h0, h1, h2, h3, h4, h5, h6, h7⟩ := HX4'.out
      go_wp2_with fail
      refine HT.out.mono ?_
      rintro e w6 ⟨u6, rfl, ho6, hb6⟩
      have HB6 := Lib.hid (bel_both HB4'.out hb6)
      have HE := Lib.hid (runesEq_walk u6 _ l l _ (reads_runes ho6.reads) (reads_runes (HR.out.below HB6.out)) (by rw [← HLN.out]; omega) (by rw [← HLN.out]; omega))
      have HX6 := Lib.hid (HX4'.out.below hb6)
      clear hb6 ho6 h0 h1 h2 h3 h4 h5 h6 h7
      rw [decide_eq_true rfl] at HE
      go_wp2_with fail
      refine HE.out.mono ?_
      rintro e w7 ⟨rfl, hb7⟩
      have HB7 := Lib.hid (bel_both HB6.out hb7)
      have HX7 := Lib.hid (HX6.out.below hb7)
      clear hb7
      obtain ⟨h0, h1, h2, h3, h4, h5, h6, h7⟩ := HX7.out
      go_wp2_with fail
      refine (kind_any 5 vnil 0 vnil vnil vnil (.slice ua n uc) vnil _).mono ?_
      rintro e w9 ⟨rfl, hb9⟩
      have HB9 := Lib.hid (bel_both HB7.out hb9)
      clear hb9 h0 h1 h2 h3 h4 h5 h6 h7
      go_wp2_with fail
      refine (awake_any14 _).mono ?_
      rintro e w8 ⟨rfl, hb8⟩
      have HB8 := Lib.hid (bel_both HB9.out hb8)
      clear hb8
      go_wp2
      go_ret
      exact ⟨rfl, HB8.out⟩
    · have n1 : ¬ (n : Int) ≤ 1 := by omega
      have HF := Lib.hid (fun W => scan_chars_dom f hk vnil 0 vnil vnil vnil (.slice ua n uc) vnil 1 n 1 (by omega) (by omega) (by omega) W)
      have HG := Lib.hid (fun W => scan_boxes_dom f hk vnil 0 vnil vnil vnil vnil vnil 0 1 1 (by omega) (by omega) (by omega) rfl W)
      have HK := Lib.hid (fun W => hk ▸ rknown_any f W)
      clear hk h1
      go_wp2_with fail
      refine (HF.out _).mono ?_
      rintro e w2 ⟨rfl, hb2⟩
      have HB2 := Lib.hid (bel_both HB1.out hb2)
      have HB2' := Lib.hid (bel_both HB2.out (bel1 w2 (.cells #[.int .i64 0, vnil, .int .i64 0, vnil, vnil, vnil, vnil, vnil] 35)))
      have HX2 := Lib.hid (boxed_new w2 35 0 vnil 0 vnil vnil vnil vnil vnil)
      clear hb2
      go_wp2_with fail
      refine (boxes_nil _).mono ?_
      rintro e w3 ⟨rfl, hb3⟩
      have HB3 := Lib.hid (bel_both HB2'.out hb3)
      have HX3 := Lib.hid (HX2.out.below hb3)
      clear hb3
      go_wp2_with fail
      refine (HG.out _).mono ?_
      rintro e w4 ⟨rfl, hb4⟩
      have HB4 := Lib.hid (bel_both HB3.out hb4)
      have HX4 := Lib.hid (HX3.out.below hb4)
      have HB4' := Lib.hid (bel_both HB4.out (bel1 w4 (.cells #[.int .i64 0, vnil, .int .i64 0, vnil, vnil, vnil, vnil, vnil] 35)))
      have HX4' := Lib.hid (HX4.out.below (bel1 w4 (.cells #[.int .i64 0, vnil, .int .i64 0, vnil, vnil, vnil, vnil, vnil] 35)))
      have HY4' := Lib.hid (boxed_new w4 35 0 vnil 0 vnil vnil vnil vnil vnil)
      clear hb4
      go_wp2_with fail
      refine (HK.out _).mono ?_
      rintro e w5 ⟨rfl, hw⟩
      rw [hw] at HB4' HX4' HY4'
      clear hw
      obtain ⟨h0, h1, h2, h3, h4, h5, h6, h7⟩ := HX4'.out
      go_wp2_with fail
      refine (kind_any 0 vnil 0 vnil vnil vnil vnil vnil _).mono ?_
      rintro e w6 ⟨rfl, hb6⟩
      have HB6 := Lib.hid (bel_both HB4'.out hb6)
      have HY6 := Lib.hid (HY4'.out.below hb6)
      clear hb6 h0 h1 h2 h3 h4 h5 h6 h7
      obtain ⟨h0, h1, h2, h3, h4, h5, h6, h7⟩ := HY6.out
      go_wp2_with fail
      refine (kind_any 0 vnil 0 vnil vnil vnil vnil vnil _).mono ?_
      rintro e w7 ⟨rfl, hb7⟩
      have HB7 := Lib.hid (bel_both HB6.out hb7)
      clear hb7 h0 h1 h2 h3 h4 h5 h6 h7
      go_wp2_with fail
      refine (awake_any14 _).mono ?_
      rintro e w8 ⟨rfl, hb8⟩
      have HB8 := Lib.hid (bel_both HB7.out hb8)
      clear hb8
      go_wp2
      go_ret
      exact ⟨rfl, HB8.out⟩
  · have hk' : knownB f = false := by simpa using hk
    have HF := Lib.hid (fun W => scan_unknown f hk' 5 vnil 0 vnil vnil vnil (.slice ua n uc) vnil 1 n 1 W)
    have HG := Lib.hid (fun W => scan_unknown f hk' 6 vnil 0 vnil vnil vnil vnil vnil 0 1 1 W)
    have HK := Lib.hid (fun W => hk' ▸ rknown_any f W)
    clear hk hk'
    go_wp2_with fail
    refine (HF.out _).mono ?_
    rintro e w2 ⟨rfl, hb2⟩
    have HB2 := Lib.hid (bel_both HB1.out hb2)
    have HB2' := Lib.hid (bel_both HB2.out (bel1 w2 (.cells #[.int .i64 0, vnil, .int .i64 0, vnil, vnil, vnil, vnil, vnil] 35)))
    have HX2 := Lib.hid (boxed_new w2 35 0 vnil 0 vnil vnil vnil vnil vnil)
    clear hb2
    go_wp2_with fail
    refine (boxes_nil _).mono ?_
    rintro e w3 ⟨rfl, hb3⟩
    have HB3 := Lib.hid (bel_both HB2'.out hb3)
    have HX3 := Lib.hid (HX2.out.below hb3)
    clear hb3
    go_wp2_with fail
    refine (HG.out _).mono ?_
    rintro e w4 ⟨rfl, hb4⟩
    have HB4 := Lib.hid (bel_both HB3.out hb4)
    have HX4 := Lib.hid (HX3.out.below hb4)
    have HB4' := Lib.hid (bel_both HB4.out (bel1 w4 (.cells #[.int .i64 0, vnil, .int .i64 0, vnil, vnil, vnil, vnil, vnil] 35)))
    have HX4' := Lib.hid (HX4.out.below (bel1 w4 (.cells #[.int .i64 0, vnil, .int .i64 0, vnil, vnil, vnil, vnil, vnil] 35)))
    clear hb4
    go_wp2_with fail
    refine (HK.out _).mono ?_
    rintro e w5 ⟨rfl, hw⟩
    rw [hw] at HB4' HX4'
    clear hw
    obtain ⟨h0, h1, h2, h3, h4, h5, h6, h7⟩ := HX4'.out
    go_wp2_with fail
    refine (kind_any 0 vnil 0 vnil vnil vnil vnil vnil _).mono ?_
    rintro e w6 ⟨rfl, hb6⟩
    have HB6 := Lib.hid (bel_both HB4'.out hb6)
    clear hb6 h0 h1 h2 h3 h4 h5 h6 h7
    go_wp2_with fail
    refine (awake_any14 _).mono ?_
    rintro e w7 ⟨rfl, hb7⟩
    have HB7 := Lib.hid (bel_both HB6.out hb7)
    clear hb7
    go_wp2
    go_ret
    exact ⟨rfl, HB7.out⟩

theorem scanOthers_any (f : Int) {w : World} {a : Option Addr} {n c : Nat} {l : List Int} (h : Runes w (.slice a n c) l) :
    Calls Tryd.prog 6 #[.int .i64 f, .slice a n c] w fun e w' => e = .returned (.bool true) ∧ Below w.heap.size w w' := by
  by_cases hn : 200 < n
  · exact scanOthers_long f a n c w hn
  · refine scanOthers_short f a n c l w ?_ (by omega) (runes_reads h)
    rcases h with ⟨a', c', e, rfl⟩ | ⟨b, o, n', c', e, hn', _⟩
    · injection e with _ e2 _
    · injection e with _ e2 _
      rw [e2, hn']
end Go.Proofs.YtdddmehchfnppaaDoor
