/- Merged texts. The walk of scan.first. Conditions: as each theorem says. The plain law of parities up to each place, and the walk of bitvec.Parity. Conditions: as each theorem says. The walk of bitvec.Parity. Conditions: as each theorem says. -/
import Derived.Test.YtdddmehchfnppaaGreatDoorMg30
import Derived.Test.YtdddmehchfnppaaGreatDoorMg18
import Derived.Test.YtdddmehchfnppaaGreatDoorMg31
namespace Go.Proofs.YtdddmehchfnppaaGreatDoor
open Go Go.RowKit Go.Proofs Fl

/-- a row of T values that the call made, at block g -/
def RowV (e : TypeId) (w : World) (B g T : Nat) (F : Nat → Value) : Prop := Own1 w B e (.slice (some ⟨g, 0, none⟩) T T) ((List.range T).map F)
theorem RowV.ow {e : TypeId} {w : World} {B g T : Nat} {F : Nat → Value} (h : RowV e w B g T F) : w.ownsRow B e 1 (.slice (some ⟨g, 0, none⟩) T T) T ((List.range T).map F) := by
  have := h
  unfold RowV Own1 at this
  rw [List.length_map, List.length_range] at this
  exact this
theorem RowV.of_ow {e : TypeId} {w : World} {B g T : Nat} {F : Nat → Value} (h : w.ownsRow B e 1 (.slice (some ⟨g, 0, none⟩) T T) T ((List.range T).map F)) : RowV e w B g T F := by
  unfold RowV Own1
  rw [List.length_map, List.length_range]
  exact h
theorem RowV.put {e : TypeId} {w : World} {B g T : Nat} {F : Nat → Value} (h : RowV e w B g T F) {k : Nat} (hk : k < T) (u : Value) : RowV e (w.setCell ⟨g, k, none⟩ u) B g T (fun j => if j = k then u else F j) := by
  have h2 := (World.ownsRow.stored h.ow k u).1
  rw [set_map_range hk] at h2
  exact RowV.of_ow h2
theorem RowV.cell {e : TypeId} {w : World} {B g T : Nat} {F : Nat → Value} (h : RowV e w B g T F) {k : Nat} (hk : k < T) : w.cell? ⟨g, k, none⟩ = some (F k) := by
  have := World.ownsRow.cellAt h.ow k (by omega)
  rw [this]
  simp [hk]
theorem RowV.frozen {e : TypeId} {w : World} {B g T : Nat} {F : Nat → Value} (h : RowV e w B g T F) (k : Nat) : w.frozen? ⟨g, k, none⟩ = false := World.ownsRow.frozenAt h.ow k
theorem RowV.low {e : TypeId} {w : World} {B g T : Nat} {F : Nat → Value} (h : RowV e w B g T F) : B ≤ g ∧ g < w.heap.size := World.ownsRow.lt h.ow g rfl
theorem RowV.made (e : TypeId) (z : Value) (w : World) (B : Nat) (hB : B ≤ w.heap.size) (T : Nat) (hT : T ≤ maxLen) : RowV e (w.alloc (.cells (madeCells #[z] T) e)) B w.heap.size T (fun _ => z) := by
  have h := World.ownsRow_lit (base := B) (e := e) (size := 1) w (madeCells #[z] T) T hB hT (by rw [size_madeCells]; omega)
  rw [toList_madeCells_one] at h
  refine RowV.of_ow ?_
  have e2 : ((List.range T).map fun _ : Nat => z) = List.replicate T z := by
    rw [List.map_const', List.length_range]
  rw [e2]
  exact h
theorem RowV.below {e : TypeId} {w w' : World} {B g T : Nat} {F : Nat → Value} (h : RowV e w B g T F) (hb : Below w.heap.size w w') : RowV e w' B g T F := Own1.below h hb

set_option maxRecDepth 100000 in
set_option maxHeartbeats 2000000 in
theorem sfirst_any (v : Value) (n : Nat) (l : Nat → Bool) (w : World) (hn : n ≤ 1048576) (hb : BitsIn w v n l) (ht : TzTab w) :
    Calls Tryz.prog 111 #[v] w fun e w' => ∃ z g, FirstIs l n z ∧ e = .returned (.agg #[.slice (some ⟨g, 0, none⟩) ((n + 63) / 64) ((n + 63) / 64), .int .i64 (n : Int)]) ∧ RowU w' w.heap.size g ((n + 63) / 64) (packW (fun j => decide (j = z)) n) ∧ Below w.heap.size w w' := by
  have hbin := hb
  obtain ⟨b, o, c, rfl, _⟩ := hb
  obtain ⟨M, hM⟩ : ∃ M, M = (n + 63) / 64 := ⟨_, rfl⟩
  have HB0 := Lib.hid (bel2 w (.cells #[.slice (some ⟨b, o, none⟩) M c, .int .i64 (n : Int)] 26) (.cells bcells 26))
  have HK0 := Lib.hid (block_up (bel1 (w.alloc (.cells #[.slice (some ⟨b, o, none⟩) M c, .int .i64 (n : Int)] 26)) (.cells bcells 26)))
  have HK1 : Hid (((w.alloc (.cells #[.slice (some ⟨b, o, none⟩) M c, .int .i64 (n : Int)] 26)).alloc (.cells bcells 26)).heap[w.heap.size + 1]? = some (.cells bcells 26)) := by
    have h := heap_alloc_new (w.alloc (.cells #[.slice (some ⟨b, o, none⟩) M c, .int .i64 (n : Int)] 26)) (.cells bcells 26)
    have hs : (w.alloc (.cells #[.slice (some ⟨b, o, none⟩) M c, .int .i64 (n : Int)] 26)).heap.size = w.heap.size + 1 := by simp
    rw [hs] at h
    exact h
  have HF := Lib.hid (fun W (hw : Below w.heap.size w W) => first_any _ n l W hn (hbin.below hw) (ht.below hw))
  have HLN := Lib.hid (fun W => blen_any (.slice (some ⟨b, o, none⟩) M c) (n : Int) W)
  have HPK := Lib.hid (fun (g : Nat) (l' : Nat → Bool) W h => pack_any g 0 n n l' hn (Nat.le_refl _) W h)
  have hmk := run_make_row' (P := Tryz.prog) 59 4 (.bool false) 1 Tryz.underlying59 info_bool rfl .i64 .i64 n (by omega) (by omega)
  rw [← hM] at HF HPK ⊢
  clear hbin ht hM
  go_enter Tryz.func111, Tryz.ntmps111
  obtain ⟨p0, p1, pf⟩ := pair_of HK0.out
  go_wp2_with fail
  refine (HLN.out _).mono ?_
  rintro e w2 ⟨rfl, hb2⟩
  have HB2 := Lib.hid ((bel_both HB0.out hb2))
  have HK02 := Lib.hid (show w2.heap[w.heap.size]? = some (.cells #[.slice (some ⟨b, o, none⟩) M c, .int .i64 (n : Int)] 26) by rw [hb2.block _ (lt_of_block HK0.out)]; exact HK0.out)
  have HK12 := Lib.hid (show w2.heap[w.heap.size + 1]? = some (.cells bcells 26) by rw [hb2.block _ (lt_of_block HK1.out)]; exact HK1.out)
  clear hb2 p0 p1 pf HB0 HK0 HK1 HLN
  obtain ⟨G, hG⟩ : ∃ G, G = w2.heap.size := ⟨_, rfl⟩
  have hG2 : w.heap.size + 2 ≤ G := by rw [hG]; exact lt_of_block HK12.out
  have HR3 := Lib.hid (RowV.made 4 (.bool false) w2 (w.heap.size + 2) (by omega) n (by unfold maxLen; omega))
  have HB3 := Lib.hid (bel_both HB2.out (bel1 w2 (.cells (madeCells #[.bool false] n) 4)))
  have HK03 := Lib.hid (show (w2.alloc (.cells (madeCells #[.bool false] n) 4)).heap[w.heap.size]? = some (.cells #[.slice (some ⟨b, o, none⟩) M c, .int .i64 (n : Int)] 26) by rw [Below.heap_alloc _ _ _ (lt_of_block HK02.out)]; exact HK02.out)
  have HK13 := Lib.hid (show (w2.alloc (.cells (madeCells #[.bool false] n) 4)).heap[w.heap.size + 1]? = some (.cells bcells 26) by rw [Below.heap_alloc _ _ _ (lt_of_block HK12.out)]; exact HK12.out)
  rw [← hG] at HR3
  clear HB2 HK12
  obtain ⟨p0, p1, pf⟩ := pair_of HK02.out
  obtain ⟨p03, p13, pf3⟩ := pair_of HK03.out
  go_wp2_with fail
  rw [← hG]
  clear hG p0 p1 pf HK02 hmk
  refine (HF.out _ HB3.out).mono ?_
  rintro e w4 ⟨z, rfl, hz, hb4⟩
  have HZ := Lib.hid hz
  have hzn : z ≤ n := hz.1
  have HR4 := Lib.hid (HR3.out.below hb4)
  have HB4 := Lib.hid (bel_both HB3.out hb4)
  have HK14 := Lib.hid (show w4.heap[w.heap.size + 1]? = some (.cells bcells 26) by rw [hb4.block _ (lt_of_block HK13.out)]; exact HK13.out)
  clear hz hb4 HR3 HB3 HK03 HK13 p03 p13 pf3 HF
  by_cases hlt : z < n
  · have hcw := HR4.out.cell hlt
    have hfw := HR4.out.frozen z
    have HR5 := Lib.hid (HR4.out.put hlt (.bool true))
    have HB5 := Lib.hid (HB4.out.setCell (p := ⟨G, z, none⟩) (by show _ ≤ G; omega) (.bool true))
    have HK15 := Lib.hid ((Below.heap_setCell w4 ⟨G, z, none⟩ (.bool true) (w.heap.size + 1) (by show _ ≠ G; omega)).trans HK14.out)
    have HP := Lib.hid (HPK.out G (fun j => decide (j = z)) _ (fun i hi => by
      rw [Nat.zero_add, HR5.out.cell hi]
      by_cases e : i = z
      · rw [if_pos e, decide_eq_true e]
      · rw [if_neg e, decide_eq_false e]))
    clear HR4 HB4 HK14 HR5
    go_wp2_with fail
    refine HP.out.mono ?_
    rintro e w6 ⟨g, rfl, hr6, hb6⟩
    have hs6 := HB5.out.size
    have hg6 := hr6.low.1
    have hKs := lt_of_block HK15.out
    have HB6 := Lib.hid (bel_both HB5.out hb6)
    have HK16 := Lib.hid (show w6.heap[w.heap.size + 1]? = some (.cells bcells 26) by rw [hb6.block _ (lt_of_block HK15.out)]; exact HK15.out)
    have HR6 := Lib.hid (hr6.lower (show w.heap.size ≤ _ from hs6))
    clear hr6 hb6
    obtain ⟨hk0, hk1, hkf⟩ := pair_of HK16.out
    go_wp2
    refine bodyPost_ret (ret_bits rfl _ _ _ rfl (set2_block HK16.out _ _)) rfl ⟨z, g, HZ.out, rfl, ?_, below_set2 HB6.out (Nat.le_succ _) _ _⟩
    exact own_set2 HR6.out (by show some g ≠ _; intro e; injection e; omega) _ _
  · have hzz : z = n := by omega
    have HP := Lib.hid (HPK.out G (fun j => decide (j = z)) w4 (fun i hi => by
      rw [Nat.zero_add, HR4.out.cell hi, decide_eq_false (by omega)]))
    clear HR4
    go_wp2_with fail
    refine HP.out.mono ?_
    rintro e w6 ⟨g, rfl, hr6, hb6⟩
    have hs6 := HB4.out.size
    have hg6 := hr6.low.1
    have hKs := lt_of_block HK14.out
    have HB6 := Lib.hid (bel_both HB4.out hb6)
    have HK16 := Lib.hid (show w6.heap[w.heap.size + 1]? = some (.cells bcells 26) by rw [hb6.block _ (lt_of_block HK14.out)]; exact HK14.out)
    have HR6 := Lib.hid (hr6.lower (show w.heap.size ≤ _ from hs6))
    clear hr6 hb6
    obtain ⟨hk0, hk1, hkf⟩ := pair_of HK16.out
    go_wp2
    refine bodyPost_ret (ret_bits rfl _ _ _ rfl (set2_block HK16.out _ _)) rfl ⟨z, g, HZ.out, rfl, ?_, below_set2 HB6.out (Nat.le_succ _) _ _⟩
    exact own_set2 HR6.out (by show some g ≠ _; intro e; injection e; omega) _ _
end Go.Proofs.YtdddmehchfnppaaGreatDoor
namespace Go.Proofs.YtdddmehchfnppaaGreatDoor
open Go Go.RowKit Go.Proofs Fl

/-- whether an odd number of the first k are true -/
def pre (f : Nat → Bool) : Nat → Bool
  | 0 => false
  | k + 1 => xor (Go.Proofs.YtdddmehchfnppaaGreatDoor.pre f k) (f k)
/-- a word after k doublings -/
def dbl (x : Nat) : Nat → Nat
  | 0 => x
  | k + 1 => dbl x k ^^^ (dbl x k * 2 ^ (2 ^ k) % 18446744073709551616)
theorem dbl_lt (x : Nat) (hx : x < 18446744073709551616) (k : Nat) : dbl x k < 18446744073709551616 := by
  induction k with
  | zero => exact hx
  | succ k ih => exact Nat.xor_lt_two_pow (n := 64) ih (Nat.mod_lt _ (by decide))
theorem shl_bit (x s m : Nat) (hm : m < 64) : (x * 2 ^ s % 18446744073709551616).testBit m = (decide (s ≤ m) && x.testBit (m - s)) := by
  have h := Nat.testBit_mod_two_pow (x * 2 ^ s) 64 m
  rw [show (2 : Nat) ^ 64 = 18446744073709551616 from rfl] at h
  rw [h, decide_eq_true hm, Bool.true_and, ← Nat.shiftLeft_eq, Nat.testBit_shiftLeft]
theorem dbl_bit (x k m : Nat) (hm : m < 64) : (dbl x k).testBit m = xor (Go.Proofs.YtdddmehchfnppaaGreatDoor.pre x.testBit (m + 1)) (Go.Proofs.YtdddmehchfnppaaGreatDoor.pre x.testBit (m + 1 - 2 ^ k)) := by
  induction k generalizing m with
  | zero =>
    show x.testBit m = xor (xor (Go.Proofs.YtdddmehchfnppaaGreatDoor.pre x.testBit m) (x.testBit m)) (Go.Proofs.YtdddmehchfnppaaGreatDoor.pre x.testBit (m + 1 - 1))
    rw [Nat.add_sub_cancel]
    cases Go.Proofs.YtdddmehchfnppaaGreatDoor.pre x.testBit m <;> cases x.testBit m <;> rfl
  | succ k ih =>
    show (dbl x k ^^^ (dbl x k * 2 ^ (2 ^ k) % 18446744073709551616)).testBit m = _
    rw [Nat.testBit_xor, shl_bit _ _ _ hm, ih m hm, Nat.pow_succ]
    generalize 2 ^ k = s at *
    by_cases h : s ≤ m
    · rw [ih (m - s) (by omega), decide_eq_true h, Bool.true_and, show m - s + 1 = m + 1 - s by omega, show m + 1 - s - s = m + 1 - s * 2 by omega]
      cases Go.Proofs.YtdddmehchfnppaaGreatDoor.pre x.testBit (m + 1) <;> cases Go.Proofs.YtdddmehchfnppaaGreatDoor.pre x.testBit (m + 1 - s) <;> cases Go.Proofs.YtdddmehchfnppaaGreatDoor.pre x.testBit (m + 1 - s * 2) <;> rfl
    · rw [decide_eq_false h, Bool.false_and, Bool.xor_false, show m + 1 - s = 0 by omega, show m + 1 - s * 2 = 0 by omega]
/-- the truths that there are -/
def cutL (l : Nat → Bool) (n j : Nat) : Bool := decide (j < n) && l j
theorem pre_word (l : Nat → Bool) (n i m : Nat) (hm : m ≤ 64) : Go.Proofs.YtdddmehchfnppaaGreatDoor.pre (cutL l n) (64 * i + m) = xor (Go.Proofs.YtdddmehchfnppaaGreatDoor.pre (cutL l n) (64 * i)) (Go.Proofs.YtdddmehchfnppaaGreatDoor.pre (packW l n i).testBit m) := by
  induction m with
  | zero => show _ = xor _ false; rw [Bool.xor_false]; rfl
  | succ m ih =>
    show xor (Go.Proofs.YtdddmehchfnppaaGreatDoor.pre (cutL l n) (64 * i + m)) (cutL l n (64 * i + m)) = xor _ (xor (Go.Proofs.YtdddmehchfnppaaGreatDoor.pre (packW l n i).testBit m) ((packW l n i).testBit m))
    rw [ih (by omega), packW_bit _ _ _ _ (by omega)]
    unfold cutL
    rw [Bool.xor_assoc]
/-- all ones, or none -/
def carW (t : Bool) : Nat := if t then 18446744073709551615 else 0
theorem carW_lt (t : Bool) : carW t < 18446744073709551616 := by cases t <;> decide
theorem carW_bit (t : Bool) (m : Nat) (hm : m < 64) : (carW t).testBit m = t := by
  cases t
  · exact Nat.zero_testBit m
  · have := not_bit 0 m hm (by decide)
    rw [Nat.zero_testBit] at this
    exact this
def parW (l : Nat → Bool) (n i : Nat) : Nat := dbl (packW l n i) 6 ^^^ carW (Go.Proofs.YtdddmehchfnppaaGreatDoor.pre (cutL l n) (64 * i))
theorem parW_lt (l : Nat → Bool) (n i : Nat) : parW l n i < 18446744073709551616 := Nat.xor_lt_two_pow (n := 64) (dbl_lt _ (packW_lt l n i) 6) (carW_lt _)
theorem parW_bit (l : Nat → Bool) (n i m : Nat) (hm : m < 64) : (parW l n i).testBit m = Go.Proofs.YtdddmehchfnppaaGreatDoor.pre (cutL l n) (64 * i + (m + 1)) := by
  unfold parW
  rw [Nat.testBit_xor, dbl_bit _ _ _ hm, carW_bit _ _ hm, pre_word l n i (m + 1) (by omega), show m + 1 - 2 ^ 6 = 0 by omega]
  show xor (xor _ false) _ = _
  rw [Bool.xor_false, Bool.xor_comm]
theorem parW_top (l : Nat → Bool) (n i : Nat) : IntKind.u64.wrap (-((parW l n i : Int) / 9223372036854775808)) = ((carW (Go.Proofs.YtdddmehchfnppaaGreatDoor.pre (cutL l n) (64 * (i + 1))) : Nat) : Int) := by
  have h := parW_bit l n i 63 (by decide)
  have hlt := parW_lt l n i
  rw [show 64 * i + (63 + 1) = 64 * (i + 1) by omega] at h
  rw [← h, Nat.testBit_eq_decide_div_mod_eq]
  have e : parW l n i / 2 ^ 63 % 2 = parW l n i / 9223372036854775808 := by
    rw [show (2 : Nat) ^ 63 = 9223372036854775808 from rfl]
    omega
  rw [e, IntKind.wrap_u64]
  generalize parW l n i = y at *
  by_cases h1 : y / 9223372036854775808 = 1
  · rw [decide_eq_true h1]
    show _ = ((18446744073709551615 : Nat) : Int)
    omega
  · rw [decide_eq_false h1]
    show _ = ((0 : Nat) : Int)
    omega
theorem pre_cut (l : Nat → Bool) (n k : Nat) (h : k ≤ n) : Go.Proofs.YtdddmehchfnppaaGreatDoor.pre (cutL l n) k = Go.Proofs.YtdddmehchfnppaaGreatDoor.pre l k := by
  induction k with
  | zero => rfl
  | succ k ih =>
    show xor (Go.Proofs.YtdddmehchfnppaaGreatDoor.pre (cutL l n) k) (cutL l n k) = xor (Go.Proofs.YtdddmehchfnppaaGreatDoor.pre l k) (l k)
    rw [ih (by omega)]
    unfold cutL
    rw [decide_eq_true (by omega), Bool.true_and]
end Go.Proofs.YtdddmehchfnppaaGreatDoor
namespace Go.Proofs.YtdddmehchfnppaaGreatDoor
open Go Go.RowKit Go.Proofs Fl

theorem dbl_step (x k : Nat) (hx : x < 18446744073709551616) : bits .xor .u64 (dbl x k : Int) (IntKind.u64.wrap ((dbl x k : Int) * 2 ^ (2 ^ k))) = ((dbl x (k + 1) : Nat) : Int) := by
  rw [shl_u64]
  exact u64_xor_nat _ _ (dbl_lt x hx k) (Nat.mod_lt _ (by decide))

set_option maxRecDepth 100000 in
set_option maxHeartbeats 2000000 in
theorem parity_any (b o c n : Nat) (l : Nat → Bool) (w : World) (hn : n ≤ 1048576) (hc : ∀ j, j < (n + 63) / 64 → w.cell? ⟨b, o + j, none⟩ = some (.int .u64 (packW l n j : Nat))) :
    Calls Tryz.prog 110 #[.agg #[.slice (some ⟨b, o, none⟩) ((n + 63) / 64) c, .int .i64 (n : Int)]] w fun e w' => ∃ g, e = .returned (.agg #[.slice (some ⟨g, 0, none⟩) ((n + 63) / 64) ((n + 63) / 64), .int .i64 (n : Int)]) ∧ RowU w' w.heap.size g ((n + 63) / 64) (packW (fun i => Go.Proofs.YtdddmehchfnppaaGreatDoor.pre l (i + 1)) n) ∧ Below w.heap.size w w' := by
  obtain ⟨M, hM⟩ : ∃ M, M = (n + 63) / 64 := ⟨_, rfl⟩
  rw [← hM] at hc ⊢
  have HC := Lib.hid hc
  have HM := Lib.hid hM
  have hMb : M ≤ 16384 := by omega
  have hmk := run_make_row' (P := Tryz.prog) 24 124 (.int .u64 0) 8 Tryz.underlying24 info_u64 rfl .i64 .i64 M (by omega) (by omega)
  clear hc hM
  go_enter Tryz.func110, Tryz.ntmps110
  go_wp2_with fail
  have HMA := Lib.hid (notMid_a w (.cells #[.slice (some ⟨b, o, none⟩) M c, .int .i64 (n : Int)] 26) (n : Int) M (by unfold maxLen; omega))
  have HMB := Lib.hid (notMid_b w (.cells #[.slice (some ⟨b, o, none⟩) M c, .int .i64 (n : Int)] 26) (n : Int) M (by unfold maxLen; omega))
  go_cut [3] from 8 (fun p wx => NotMid w (.cells #[.slice (some ⟨b, o, none⟩) M c, .int .i64 (n : Int)] 26) (n : Int) M p wx)
  case first =>
    go_region
    all_goals
      go_wp2
      go_meet
      first | exact HMA.out | exact HMB.out
  obtain ⟨V, g, rfl, hr0, hb0, hk0, hk1, hk2, hVg, hV⟩ := hcut
  have HR0 := Lib.hid hr0
  have HB0 := Lib.hid hb0
  have HK0 := Lib.hid hk0
  have HK1 := Lib.hid hk1
  have HK2 := Lib.hid hk2
  have hg2 := hr0.low.1
  clear hr0 hb0 hk0 hk1 hk2 hmk
  obtain ⟨hx0, hx1, _⟩ := pair_of HK0.out
  go_wp2_with fail
  go_loopw [4, 18] (fun cc ii wr => ∃ i : Nat, i ≤ M ∧ ii = .int .i64 i ∧ cc = .int .u64 ((carW (Go.Proofs.YtdddmehchfnppaaGreatDoor.pre (cutL l n) (64 * i)) : Nat) : Int) ∧ RowU wr (w.heap.size + 2) g M (fun j => if j < i then parW l n j else 0) ∧ Below w.heap.size w wr ∧ wr.heap[w.heap.size]? = some (.cells #[.slice (some ⟨b, o, none⟩) M c, .int .i64 (n : Int)] 26) ∧ wr.heap[w.heap.size + 1]? = some (.cells bcells 26) ∧ wr.heap[V]? = some (.cells #[.slice (some ⟨g, 0, none⟩) M M, .int .i64 (n : Int)] 26)) (fun _ ii _ => M - (intOf ii).toNat)
  case atStart => exact ⟨0, Nat.zero_le _, rfl, rfl, HR0.out.same (fun j _ => by rw [if_neg (Nat.not_lt_zero _)]), HB0.out, HK0.out, HK1.out, HK2.out⟩
  case round =>
    clear HR0 HB0 HK0 HK1 HK2 hx0 hx1
    obtain ⟨i, hi, rfl, rfl, hrow, hbl, hk0, hk1, hk2⟩ := hrel
    have HROW := Lib.hid hrow
    have HBL := Lib.hid hbl
    have HK0 := Lib.hid hk0
    have HK1 := Lib.hid hk1
    have HK2 := Lib.hid hk2
    clear hrow hbl hk0 hk1 hk2
    by_cases hlt : i < M
    · have hcell : wr.cell? ⟨b, o + i, none⟩ = some (.int .u64 (packW l n i : Nat)) := by rw [HBL.out.cell (cell_lt (HC.out i hlt))]; exact HC.out i hlt
      have hxlt := packW_lt l n i
      have HXL := Lib.hid hxlt
      obtain ⟨hv0, hv1, hvf⟩ := pair_of HK2.out
      have HPUT := Lib.hid (HROW.out.put hlt (parW l n i) (F' := fun j => if j < i + 1 then parW l n j else 0) (fun j _ => by
        by_cases e : j = i
        · rw [if_pos e, if_pos (by omega), e]
        · rw [if_neg e]
          by_cases h2 : j < i
          · rw [if_pos h2, if_pos (by omega)]
          · rw [if_neg h2, if_neg (by omega)]))
      have hfin : bits .xor .u64 (dbl (packW l n i) 6 : Int) ((carW (Go.Proofs.YtdddmehchfnppaaGreatDoor.pre (cutL l n) (64 * i)) : Nat) : Int) = ((parW l n i : Nat) : Int) := u64_xor_nat _ _ (dbl_lt _ hxlt 6) (carW_lt _)
      have HFIN := Lib.hid hfin
      have HTOP := Lib.hid (parW_top l n i)
      have HD0 : Hid (dbl (packW l n i) 0 = packW l n i) := rfl
      have HSTEP := Lib.hid (fun k => dbl_step (packW l n i) k hxlt)
      have HDL := Lib.hid (fun k => dbl_lt (packW l n i) hxlt k)
      have HPL := Lib.hid (parW_lt l n i)
      have hcw := HROW.out.cell hlt
      have hfw := HROW.out.frozen i
      have HB3 := Lib.hid (HBL.out.setCell (p := ⟨g, i, none⟩) (by show _ ≤ g; omega) (.int .u64 ((parW l n i : Nat) : Int)))
      have HK03 := Lib.hid ((Below.heap_setCell wr ⟨g, i, none⟩ (.int .u64 ((parW l n i : Nat) : Int)) w.heap.size (by show _ ≠ g; omega)).trans HK0.out)
      have HK13 := Lib.hid ((Below.heap_setCell wr ⟨g, i, none⟩ (.int .u64 ((parW l n i : Nat) : Int)) (w.heap.size + 1) (by show _ ≠ g; omega)).trans HK1.out)
      have HK23 := Lib.hid ((Below.heap_setCell wr ⟨g, i, none⟩ (.int .u64 ((parW l n i : Nat) : Int)) V (by show _ ≠ g; exact hVg)).trans HK2.out)
      have HCN := Lib.hid (HPUT.out.cell hlt)
      generalize hdd : dbl (packW l n i) = D at *
      generalize carW (Go.Proofs.YtdddmehchfnppaaGreatDoor.pre (cutL l n) (64 * i)) = C at *
      generalize parW l n i = Y at *
      generalize packW l n i = x at *
      clear hdd hfin hxlt
      go_wp2_with fail
      go_loop [6, 7] (fun xx ss => ∃ k : Nat, k ≤ 6 ∧ xx = .int .u64 ((D k : Nat) : Int) ∧ ss = .int .i64 ((2 ^ k : Nat) : Int)) (fun _ ss => 64 - (intOf ss).toNat)
      case atStart => exact ⟨0, by decide, by rw [HD0.out], rfl⟩
      case round =>
        obtain ⟨k, hk, rfl, rfl⟩ := hrel
        by_cases hk6 : k < 6
        · have hS5 : 2 ^ k ≤ 2 ^ 5 := Nat.pow_le_pow_right (by decide) (by omega)
          have hS1 : 1 ≤ 2 ^ k := Nat.one_le_two_pow
          have HST := Lib.hid (HSTEP.out k)
          have HES : Hid (2 ^ (k + 1) = 2 ^ k * 2) := Nat.pow_succ 2 k
          have hdk := HDL.out k
          generalize 2 ^ k = S at *
          generalize D k = Dk at *
          have hS32 : S ≤ 32 := hS5
          clear hS5
          go_wp2
          go_round
          case rel => exact ⟨k + 1, by omega, by rw [HST.out], by rw [HES.out]; congr 1⟩
          case measure => simp [intOf]; omega
        · obtain rfl : k = 6 := by omega
          have h64 : ((2 ^ 6 : Nat) : Int) = 64 := rfl
          rw [h64]
          have hfin := HFIN.out
          have htop := HTOP.out
          have hpl := HPL.out
          have hcn := HCN.out
          go_wp2
          go_roundw
          case rel => exact ⟨i + 1, by omega, by go_num, rfl, HPUT.out, HB3.out, HK03.out, HK13.out, HK23.out⟩
          case measure => simp [intOf]; omega
    · obtain rfl : i = M := by omega
      have HT := Lib.hid (trim_any (w.heap.size + 2) g n i _ wr hn HM.out HROW.out (fun j hj => by
        show (if j < i then _ else _) < _
        rw [if_pos hj]
        exact parW_lt l n j))
      have HF : Hid (∀ j, j < i → trimF n i (fun j => if j < i then parW l n j else 0) j = packW (fun i => Go.Proofs.YtdddmehchfnppaaGreatDoor.pre l (i + 1)) n j) := by
        refine trimF_pack n i _ (fun i => Go.Proofs.YtdddmehchfnppaaGreatDoor.pre l (i + 1)) HM.out (fun j hj => ?_) (fun j hj m hm hin => ?_)
        · show (if j < i then _ else _) < _
          rw [if_pos hj]
          exact parW_lt l n j
        · show Nat.testBit (if j < i then _ else _) m = _
          rw [if_pos hj, parW_bit l n j m hm, pre_cut l n _ (by omega)]
          rfl
      obtain ⟨hv0, hv1, hvf⟩ := pair_of HK2.out
      go_wp2_with fail
      refine HT.out.mono ?_
      rintro e w5 ⟨rfl, hr5, hb5, ho5⟩
      have HR5 := Lib.hid (hr5.same (F' := packW (fun i => Go.Proofs.YtdddmehchfnppaaGreatDoor.pre l (i + 1)) n) (fun j hj => (HF.out j hj).symm))
      have HB5 := Lib.hid (HBL.out.trans (hb5.mono (by omega)))
      have HK5 := Lib.hid (show w5.heap[w.heap.size + 1]? = some (.cells bcells 26) by rw [hb5.block _ (by omega)]; exact HK1.out)
      have hVl : V < wr.heap.size := lt_of_block HK2.out
      have HKV := Lib.hid (show w5.heap[V]? = some (.cells #[.slice (some ⟨g, 0, none⟩) i i, .int .i64 (n : Int)] 26) by rw [ho5 V hVl hVg]; exact HK2.out)
      clear hr5 hb5 ho5 hv0 hv1 hvf
      obtain ⟨hv0, hv1, hvf⟩ := pair_of HKV.out
      obtain ⟨hk0, hk1, hkf⟩ := pair_of HK5.out
      go_wp2
      refine bodyPost_ret (ret_bits rfl _ _ _ rfl (set2_block HK5.out _ _)) rfl ⟨g, rfl, ?_, below_set2 HB5.out (Nat.le_succ _) _ _⟩
      exact own_set2 (HR5.out.lower (by omega)) (by show some g ≠ _; intro e; injection e; omega) _ _
end Go.Proofs.YtdddmehchfnppaaGreatDoor
