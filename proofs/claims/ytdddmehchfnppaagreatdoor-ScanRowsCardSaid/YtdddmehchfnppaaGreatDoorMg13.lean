/- Merged texts. The walks of fold.less and fold.row. Conditions: the table of math/bits reads as its text lays it. A Vec's numbers as every function asks for them, whatever the store. Conditions: as each theorem says. -/
import Derived.Test.YtdddmehchfnppaaGreatDoorMg12
import Derived.Test.YtdddmehchfnppaaGreatDoorMg10
namespace Go.Proofs.YtdddmehchfnppaaGreatDoor
open Go Go.RowKit Go.Proofs Fl

/-- every second one taken away -/
def altN (f : Nat → Bool) : Nat → Int
  | 0 => 0
  | p + 1 => altN f p + if f p then 1 - 2 * ((p % 2 : Nat) : Int) else 0
def altL (L : List Nat) : Int := (L.map fun q => 1 - 2 * ((q % 2 : Nat) : Int)).sum
theorem altL_snoc (L : List Nat) (q : Nat) : altL (L ++ [q]) = altL L + (1 - 2 * ((q % 2 : Nat) : Int)) := by
  unfold altL
  rw [List.map_append, List.sum_append]
  simp
theorem altL_ones (f : Nat → Bool) (p : Nat) : altL (onesL f p) = altN f p := by
  induction p with
  | zero => rfl
  | succ p ih =>
    rw [onesL_succ]
    unfold altN
    split
    · rw [altL_snoc, ih]
    · rw [ih, Int.add_zero]
theorem altN_cut (l : Nat → Bool) (n d : Nat) : altN (cutB l n) (n + d) = altN l n := by
  induction d with
  | zero =>
    have : ∀ m, m ≤ n → altN (cutB l n) m = altN l m := by
      intro m
      induction m with
      | zero => intro _; rfl
      | succ m ih =>
        intro h
        unfold altN
        rw [ih (by omega)]
        have : m < n := by omega
        simp [cutB, this]
    exact this n (Nat.le_refl _)
  | succ d ih =>
    show altN (cutB l n) (n + d) + _ = _
    rw [ih]
    have : ¬ n + d < n := by omega
    simp [cutB, this]
theorem altL_bound (L : List Nat) : -(L.length : Int) ≤ altL L ∧ altL L ≤ L.length := by
  induction L with
  | nil => exact ⟨by simp [altL], by simp [altL]⟩
  | cons q L ih =>
    have e : altL (q :: L) = (1 - 2 * ((q % 2 : Nat) : Int)) + altL L := by unfold altL; simp
    rw [e, List.length_cons]
    omega
theorem and1 (i : Nat) (h : i ≤ 2097152) : bits .and .i64 (i : Int) 1 = ((i % 2 : Nat) : Int) := by
  show IntKind.i64.wrap ((BitVec.ofInt 64 (i : Int) &&& BitVec.ofInt 64 ((1 : Nat) : Int)).toNat : Int) = _
  have e : i &&& 1 = i % 2 := Nat.and_two_pow_sub_one_eq_mod i 1
  rw [BitVec.toNat_and, ofInt_u64 i (by omega), ofInt_u64 1 (by omega), e, IntKind.wrap_i64]
  omega
theorem onesL_lt (f : Nat → Bool) (p i : Nat) (h : i < (onesL f p).length) : (onesL f p).getD i 0 < p := by
  have hm : (onesL f p)[i] ∈ onesL f p := List.getElem_mem h
  unfold onesL at hm
  have := (List.mem_filter.1 hm).1
  have h2 := List.mem_range.1 this
  rw [List.getD_eq_getElem?_getD, List.getElem?_eq_getElem h]
  exact h2

set_option maxRecDepth 100000 in
set_option maxHeartbeats 2000000 in
theorem less_any (v : Value) (n : Nat) (l : Nat → Bool) (w : World) (hn : n ≤ 1048576) (hb : BitsIn w v n l) (ht : TzTab w) :
    Calls Tryz.prog 128 #[v] w fun e w' => e = .returned (.int .i64 (altN l n)) ∧ Below w.heap.size w w' := by
  have HON := Lib.hid (fun W (hw : Below w.heap.size w W) => bones_any v n l W hn (hb.below hw) (ht.below hw))
  obtain ⟨b, o, c, rfl, _⟩ := hb
  obtain ⟨M, hM⟩ : ∃ M, M = (n + 63) / 64 := ⟨_, rfl⟩
  rw [← hM] at HON ⊢
  have HRES : Hid (altL (onesL (cutB l n) (64 * M)) = altN l n) := by
    show _ = _
    rw [altL_ones, show 64 * M = n + (64 * M - n) by omega, altN_cut]
  have hlt := onesL_lt (cutB l n) (64 * M)
  have hlen := onesL_len (cutB l n) (64 * M)
  unfold onesV at HON
  generalize onesL (cutB l n) (64 * M) = L at *
  have HLT := Lib.hid hlt
  obtain ⟨N, hN⟩ : ∃ N, N = L.length := ⟨_, rfl⟩
  have hNb : N ≤ 1048640 := by omega
  rw [← hN] at HLT
  have HN := Lib.hid hN
  have hMb : M ≤ 16384 := by omega
  clear ht hlt hlen hM
  go_enter Tryz.func128, Tryz.ntmps128
  go_wp2_with fail
  refine (HON.out _ (bel1 w _)).mono ?_
  rintro e w1 ⟨a, m, c2, rfl, hown, hb1⟩
  have HB1 := Lib.hid (bel_both (bel1 w _) hb1)
  have hr := hown.reads
  rw [← map_range_getD L 0 (fun j => Value.int .i64 (j : Nat)), ← hN] at hr
  obtain ⟨a2, c3, e2, hcell⟩ := reads_at hr
  injection e2 with e3 e4 e5
  subst e3 e4 e5
  have HC := Lib.hid hcell
  clear hr hown hb1 hcell hN
  go_wp2_with fail
  go_loopw [3, 9] (fun nn ii wr => ∃ i : Nat, i ≤ m ∧ ii = .int .i64 i ∧ nn = .int .i64 (altL (L.take i)) ∧ Below w1.heap.size w1 wr) (fun _ ii _ => m - (intOf ii).toNat)
  case atStart => exact ⟨0, Nat.zero_le _, rfl, rfl, Below.refl _ _⟩
  case round =>
    obtain ⟨i, hi, rfl, rfl, hbl⟩ := hrel
    have HBL := Lib.hid hbl
    clear hbl
    by_cases hlt : i < m
    · obtain ⟨b2, o2, ea, hc1⟩ := HC.out i hlt
      subst ea
      have hcell : wr.cell? ⟨b2, o2 + i, none⟩ = some (.int .i64 ((L.getD i 0 : Nat) : Int)) := by rw [HBL.out.cell (cell_lt hc1)]; exact hc1
      have hx := HLT.out i hlt
      have hq := and1 (L.getD i 0) (by omega)
      have hst : Hid (altL (L.take i) + (1 - 2 * ((L.getD i 0 % 2 : Nat) : Int)) = altL (L.take (i + 1))) := by
        show _ = _
        have hi2 : i < L.length := by rw [← HN.out]; exact hlt
        rw [List.take_succ_eq_append_getElem hi2, altL_snoc]
        congr 4
        rw [List.getD_eq_getElem?_getD, List.getElem?_eq_getElem hi2]
        rfl
      have hb2 := altL_bound (L.take i)
      have hl2 : (L.take i).length ≤ i := by rw [List.length_take]; omega
      obtain ⟨hb2a, hb2b⟩ := hb2
      have hba : -1048640 ≤ altL (L.take i) := by omega
      have hbb : altL (L.take i) ≤ 1048640 := by omega
      have hq2 : L.getD i 0 % 2 ≤ 1 := by omega
      clear hb2a hb2b hc1
      generalize altL (L.take i) = s1 at *
      generalize L.getD i 0 = x at *
      generalize x % 2 = q at *
      go_wp2
      go_roundw
      case rel => exact ⟨i + 1, by omega, by go_num, by rw [← hst.out], HBL.out⟩
      case measure => simp [intOf]; omega
    · obtain rfl : i = m := by omega
      have HTK : Hid (altL (L.take i) = altL L) := by show _ = _; rw [HN.out, List.take_length]
      go_wp2
      go_ret
      exact ⟨by rw [← HRES.out, ← HTK.out]; rfl, HB1.out.trans (HBL.out.mono HB1.out.size)⟩
end Go.Proofs.YtdddmehchfnppaaGreatDoor
namespace Go.Proofs.YtdddmehchfnppaaGreatDoor
open Go Go.RowKit Go.Proofs Fl

theorem reads_cell {W : World} {g o n c : Nat} {F : Nat → Value} (h : Reads1 W (.slice (some ⟨g, o, none⟩) n c) ((List.range n).map F)) (j : Nat) (hj : j < n) : W.cell? ⟨g, o + j, none⟩ = some (F j) := by
  obtain ⟨a, c2, e1, hc⟩ := reads_at h
  injection e1 with e1 _ _
  obtain ⟨b', o', e3, h3⟩ := hc j hj
  rw [e3] at e1
  injection e1 with e1
  injection e1 with ea eb _
  subst ea; subst eb
  exact h3

/-- a Vec of n numbers F in store k -/
structure NumV (v : Value) (k : Int) (n : Nat) (F : Nat → Nat) (w : World) : Prop where
  cls : Calls Tryz.prog 31 #[v] w fun e w2 => e = .returned (.int .i64 0) ∧ Below w.heap.size w w2
  len : Calls Tryz.prog 39 #[v] w fun e w2 => e = .returned (.int .i64 n) ∧ Below w.heap.size w w2
  num : ∀ j, j < n → Calls Tryz.prog 28 #[v, .int .i64 (j : Nat)] w fun e w2 => e = .returned (.float .f64 (F j)) ∧ Below w.heap.size w w2
  wholeI : k ≠ 4 → ∀ j, j < n → ∀ z, Good z → F j = fi z → Calls Tryz.prog 71 #[v, .int .i64 (j : Nat)] w fun e w2 => e = .returned (.tuple #[.int .i64 z, .bool true]) ∧ Below w.heap.size w w2
  wholeF : k = 4 → ∀ j, j < n → Calls Tryz.prog 71 #[v, .int .i64 (j : Nat)] w fun e w2 => e = .returned (.tuple #[.int .i64 0, .bool false]) ∧ Below w.heap.size w w2
  ints : k ≠ 4 → ∀ j, j < n → ∃ z, Good z ∧ F j = fi z
  tf : ∀ j, j < n → TF (F j)
  kind : k = 1 ∨ k = 2 ∨ k = 3 ∨ k = 4
  bitsX : k = 1 → ∃ (l : Nat → Bool) (s : Value), v = vecV 1 s n vnil vnil vnil vnil vnil ∧ BitsIn w (.agg #[s, .int .i64 (n : Int)]) n l ∧ ∀ j, j < n → F j = flagF (l j)
  intsX : k = 3 → ∃ (L : Nat → Int) (s : Value), v = vecV 3 vnil 0 vnil s vnil vnil vnil ∧ Reads1 w s ((List.range n).map fun j => .int .i64 (L j)) ∧ ∀ j, j < n → F j = fi (L j) ∧ Good (L j)
  shape : ∃ (b : Value) (bn : Int) (s i f c x : Value), v = vecV k b bn s i f c x

set_option maxHeartbeats 400000 in
theorem in_1 (s : Value) (len : Nat) (sm i f c x : Value) (j : Nat) (hj : j < len) (w : World) :
    Calls Tryz.prog 58 #[vecV 1 s len sm i f c x, .int .i64 (j : Int)] w fun e w' => e = .returned (.bool true) ∧ Below w.heap.size w w' := by
  have HL := Lib.hid (fun W => len_1 s len sm i f c x W)
  have h0 : (0 : Int) ≤ (j : Int) := by omega
  have h1 : (j : Int) < (len : Int) := by omega
  go_enter Tryz.func58, Tryz.ntmps58
  go_wp2_with fail
  refine (HL.out _).mono ?_
  rintro e w1 ⟨rfl, hb1⟩
  have HB := Lib.hid (bel_both (bel1 w _) hb1)
  clear hb1
  go_wp2
  go_ret
  exact ⟨by simp, HB.out⟩
set_option maxHeartbeats 400000 in
theorem num_1 (s : Value) (len : Nat) (sm i f c x : Value) (j : Nat) (hj : j < len) (t : Bool) (w : World)
    (ha : ∀ W, Below w.heap.size w W → Calls Tryz.prog 59 #[.agg #[s, .int .i64 (len : Int)], .int .i64 (j : Int)] W fun e w' => e = .returned (.bool t) ∧ Below W.heap.size W w') :
    Calls Tryz.prog 28 #[vecV 1 s len sm i f c x, .int .i64 (j : Int)] w fun e w' => e = .returned (.float .f64 (flagF t)) ∧ Below w.heap.size w w' := by
  have HA := Lib.hid ha
  have HI := Lib.hid (fun W => in_1 s len sm i f c x j hj W)
  clear ha
  go_enter Tryz.func28, Tryz.ntmps28
  go_wp2_with fail
  refine (HI.out _).mono ?_
  rintro e w1 ⟨rfl, hb1⟩
  have HB1 := Lib.hid (bel_both (bel1 w _) hb1)
  obtain ⟨h0, h1, h2, h3, h4, h5, h6, h7⟩ := (boxed_new w 32 1 s len sm i f c x).below hb1
  clear hb1
  go_wp2_with fail
  refine (HA.out _ HB1.out).mono ?_
  rintro e w2 ⟨rfl, hb2⟩
  have HB2 := Lib.hid (bel_both HB1.out hb2)
  clear hb2 h0 h1 h2 h3 h4 h5 h6 h7
  go_wp2_with fail
  refine (flag_any _ _).mono ?_
  rintro e w3 ⟨rfl, rfl⟩
  go_wp2
  go_ret
  exact ⟨rfl, HB2.out⟩
set_option maxHeartbeats 400000 in
theorem vwhole_1 (s : Value) (len : Nat) (sm i f c x : Value) (j : Nat) (hj : j < len) (t : Bool) (w : World)
    (ha : ∀ W, Below w.heap.size w W → Calls Tryz.prog 59 #[.agg #[s, .int .i64 (len : Int)], .int .i64 (j : Int)] W fun e w' => e = .returned (.bool t) ∧ Below W.heap.size W w') :
    Calls Tryz.prog 71 #[vecV 1 s len sm i f c x, .int .i64 (j : Int)] w fun e w' => e = .returned (.tuple #[.int .i64 (if t then 1 else 0), .bool true]) ∧ Below w.heap.size w w' := by
  have HA := Lib.hid ha
  have HI := Lib.hid (fun W => in_1 s len sm i f c x j hj W)
  clear ha
  cases t
  all_goals
    go_enter Tryz.func71, Tryz.ntmps71
    go_wp2_with fail
    refine (HI.out _).mono ?_
    rintro e w1 ⟨rfl, hb1⟩
    have HB1 := Lib.hid (bel_both (bel1 w _) hb1)
    obtain ⟨h0, h1, h2, h3, h4, h5, h6, h7⟩ := (boxed_new w 32 1 s len sm i f c x).below hb1
    clear hb1
    go_wp2_with fail
    refine (HA.out _ HB1.out).mono ?_
    rintro e w2 ⟨rfl, hb2⟩
    have HB2 := Lib.hid (bel_both HB1.out hb2)
    clear hb2 h0 h1 h2 h3 h4 h5 h6 h7
    go_wp2
    go_ret2
    exact ⟨rfl, HB2.out⟩

theorem fi_one : fi 1 = one := by decide +kernel
theorem flagF_fi (t : Bool) : flagF t = fi (if t then 1 else 0) := by
  cases t
  · exact fi_zero.symm
  · exact fi_one.symm
theorem good_flag (t : Bool) : Good (if t then 1 else 0) := by cases t <;> decide

/-- a Vec of n packed truths l: what is read of it -/
def BitV (n : Nat) (l : Nat → Bool) (u : Value) (W : World) : Prop := ∃ s, u = vecV 1 s n vnil vnil vnil vnil vnil ∧ BitsIn W (.agg #[s, .int .i64 (n : Int)]) n l
def Small8V (n : Nat) (l : Nat → Int) (u : Value) (W : World) : Prop := Small8 n l u W ∧ ∀ j, j < n → -128 ≤ l j ∧ l j ≤ 127
def IntV (n : Nat) (l : Nat → Int) (u : Value) (W : World) : Prop := (∃ s, u = vecV 3 vnil 0 vnil s vnil vnil vnil ∧ Reads1 W s ((List.range n).map fun j => .int .i64 (l j))) ∧ ∀ j, j < n → Good (l j)
def FloatV (n : Nat) (F : Nat → Nat) (u : Value) (W : World) : Prop := (∃ s, u = vecV 4 vnil 0 vnil vnil s vnil vnil ∧ Reads1 W s ((List.range n).map fun j => .float .f64 (F j))) ∧ ∀ j, j < n → TF (F j)

theorem bitV_at {n : Nat} {l : Nat → Bool} {s : Value} {W : World} (hn : n ≤ 1048576) (hr : BitsIn W (.agg #[s, .int .i64 (n : Int)]) n l) (j : Nat) (hj : j < n) :
    Calls Tryz.prog 59 #[.agg #[s, .int .i64 (n : Int)], .int .i64 (j : Int)] W fun e w' => e = .returned (.bool (l j)) ∧ Below W.heap.size W w' := by
  obtain ⟨b, o, c, ev, hc⟩ := hr
  have es : s = .slice (some ⟨b, o, none⟩) ((n + 63) / 64) c := by
    injection ev with ev
    have := congrArg (fun x : Array Value => x.getD 0 undef) ev
    exact this
  subst es
  have hcell := hc (j / 64) (by omega)
  have h := bat_any b o ((n + 63) / 64) c n j _ W hj hn (by omega) hcell (packW_lt l n (j / 64))
  have e : (packW l n (j / 64)).testBit (j % 64) = l j := by
    rw [packW_bit _ _ _ _ (Nat.mod_lt _ (by decide)), show 64 * (j / 64) + j % 64 = j by omega]
    simp [hj]
  rw [e] at h
  exact h
set_option maxRecDepth 100000 in
theorem numV_bits {n : Nat} {l : Nat → Bool} {u : Value} {W : World} (hn : n ≤ 1048576) (h : BitV n l u W) : NumV u 1 n (fun j => flagF (l j)) W := by
  obtain ⟨s, rfl, hr⟩ := h
  refine ⟨class_1 _ _ _ _ _ _ _ _, len_1 _ _ _ _ _ _ _ _, fun j hj => num_1 _ _ _ _ _ _ _ j hj (l j) W (fun W' hb => bitV_at hn (hr.below hb) j hj), fun _ j hj z hz e => ?_, fun h => absurd h (by decide), fun _ j _ => ⟨_, good_flag (l j), flagF_fi (l j)⟩, fun j _ => tf_flag _, .inl rfl, fun _ => ⟨l, s, rfl, hr, fun _ _ => rfl⟩, fun h => absurd h (by decide), ⟨_, _, _, _, _, _, _, rfl⟩⟩
  have e2 : z = if l j then 1 else 0 := fi_inj hz (good_flag _) (by rw [← flagF_fi]; exact e.symm)
  rw [e2]
  exact vwhole_1 _ _ _ _ _ _ _ j hj (l j) W fun W' hb => bitV_at hn (hr.below hb) j hj
theorem numV_small {n : Nat} {l : Nat → Int} {u : Value} {W : World} (h : Small8V n l u W) : NumV u 2 n (fun j => fi (l j)) W := by
  obtain ⟨⟨s, rfl, hr⟩, hl⟩ := h
  have hg : ∀ j, j < n → Good (l j) := fun j hj => by have := hl j hj; exact ⟨by omega, by omega⟩
  obtain ⟨a, c, rfl, hc⟩ := reads_at hr
  refine ⟨class_2 _ _ _ _ _ _ _ _, len_2 _ _ _ _ _ _ _ _ _ _, fun j hj => ?_, fun _ j hj z hz e => ?_, fun h => absurd h (by decide), fun _ j hj => ⟨_, hg j hj, rfl⟩, fun j hj => tf_fi (hg j hj), .inr (.inl rfl), fun h => absurd h (by decide), fun h => absurd h (by decide), ⟨_, _, _, _, _, _, _, rfl⟩⟩
  · obtain ⟨b, o, rfl, hcell⟩ := hc j hj
    exact num_2 _ _ _ _ _ _ _ _ _ _ j hj _ W hcell
  · obtain ⟨b, o, rfl, hcell⟩ := hc j hj
    have e2 : z = l j := fi_inj hz (hg j hj) e.symm
    rw [e2]
    exact vwhole_2 _ _ _ _ _ _ _ _ _ _ j hj _ (hl j hj).1 (hl j hj).2 W hcell
theorem numV_ints {n : Nat} {l : Nat → Int} {u : Value} {W : World} (h : IntV n l u W) : NumV u 3 n (fun j => fi (l j)) W := by
  obtain ⟨⟨s, rfl, hr⟩, hg⟩ := h
  obtain ⟨a, c, rfl, hc⟩ := reads_at hr
  refine ⟨class_3 _ _ _ _ _ _ _ _, len_3 _ _ _ _ _ _ _ _ _ _, fun j hj => ?_, fun _ j hj z hz e => ?_, fun h => absurd h (by decide), fun _ j hj => ⟨_, hg j hj, rfl⟩, fun j hj => tf_fi (hg j hj), .inr (.inr (.inl rfl)), fun h => absurd h (by decide), fun _ => ⟨l, _, rfl, hr, fun j hj => ⟨rfl, hg j hj⟩⟩, ⟨_, _, _, _, _, _, _, rfl⟩⟩
  · obtain ⟨b, o, rfl, hcell⟩ := hc j hj
    exact num_3 _ _ _ _ _ _ _ _ _ _ j hj _ W hcell
  · obtain ⟨b, o, rfl, hcell⟩ := hc j hj
    have e2 : z = l j := fi_inj hz (hg j hj) e.symm
    rw [e2]
    exact vwhole_3 _ _ _ _ _ _ _ _ _ _ j hj _ W hcell
theorem numV_floats {n : Nat} {F : Nat → Nat} {u : Value} {W : World} (h : FloatV n F u W) : NumV u 4 n F W := by
  obtain ⟨⟨s, rfl, hr⟩, ht⟩ := h
  obtain ⟨a, c, rfl, hc⟩ := reads_at hr
  refine ⟨class_4 _ _ _ _ _ _ _ _, len_4 _ _ _ _ _ _ _ _ _ _, fun j hj => ?_, fun h => absurd rfl h, fun _ j hj => ?_, fun h => absurd rfl h, ht, .inr (.inr (.inr rfl)), fun h => absurd h (by decide), fun h => absurd h (by decide), ⟨_, _, _, _, _, _, _, rfl⟩⟩
  · obtain ⟨b, o, rfl, hcell⟩ := hc j hj
    exact num_4 _ _ _ _ _ _ _ _ _ _ j hj _ W hcell
  · obtain ⟨b, o, rfl, hcell⟩ := hc j hj
    exact vwhole_4 _ _ _ _ _ _ _ _ _ _ j hj W
end Go.Proofs.YtdddmehchfnppaaGreatDoor
