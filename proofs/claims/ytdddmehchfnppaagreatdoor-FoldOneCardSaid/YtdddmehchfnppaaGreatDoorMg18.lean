/- Merged texts. The walk of scan.line where every step goes in whole numbers: adding and taking away. Conditions: as each theorem says. The walk of relate.table. Conditions: as each theorem says. -/
import Derived.Test.YtdddmehchfnppaaGreatDoorMg08
import Derived.Test.YtdddmehchfnppaaGreatDoorMg17
import Derived.Test.YtdddmehchfnppaaGreatDoorMg13
namespace Go.Proofs.YtdddmehchfnppaaGreatDoor
open Go Go.RowKit Go.Proofs Fl

/-- nothing but the block g was written -/
structure Only (g : Nat) (w w' : World) : Prop where
  os : w'.os = w.os
  tape : w'.tape = w.tape
  output : w'.output = w.output
  size : w.heap.size ≤ w'.heap.size
  block : ∀ k, k < w.heap.size → k ≠ g → w'.heap[k]? = w.heap[k]?
theorem Only.refl (g : Nat) (w : World) : Only g w w := ⟨rfl, rfl, rfl, Nat.le_refl _, fun _ _ _ => rfl⟩
theorem Only.trans {g : Nat} {a b c : World} (h : Only g a b) (k : Only g b c) : Only g a c :=
  ⟨k.os.trans h.os, k.tape.trans h.tape, k.output.trans h.output, Nat.le_trans h.size k.size, fun i hi hg => (k.block i (Nat.lt_of_lt_of_le hi h.size) hg).trans (h.block i hi hg)⟩
theorem Only.set {g : Nat} {a b : World} (h : Only g a b) (i : Nat) (u : Value) : Only g a (b.setCell ⟨g, i, none⟩ u) := by
  have hb := (Below.refl g b).setCell (p := ⟨g, i, none⟩) (Nat.le_refl g) u
  exact h.trans ⟨hb.os, hb.tape, hb.output, hb.size, fun k _ hg => Below.heap_setCell _ _ _ _ hg⟩
theorem Only.below {g B : Nat} {w0 w w' : World} (h : Only g w w') (hb : Below B w0 w) (hB : B ≤ g) (hg : g < w.heap.size) : Below B w0 w' :=
  ⟨h.os.trans hb.os, h.tape.trans hb.tape, h.output.trans hb.output, Nat.le_trans hb.size h.size, fun k hk => (h.block k (by omega) (by omega)).trans (hb.block k hk)⟩
theorem Only.cell {g : Nat} {w w' : World} (h : Only g w w') {b i : Nat} {v : Value} (hc : w.cell? ⟨b, i, none⟩ = some v) (hg : b ≠ g) : w'.cell? ⟨b, i, none⟩ = some v := by
  rw [World.cell?_of_block (w := w) (h.block b (cell_lt hc) hg)]; exact hc

/-- a row of T whole numbers that the call made, at block g -/
def Row64 (w : World) (B g T : Nat) (F : Nat → Int) : Prop := Own1 w B 2 (.slice (some ⟨g, 0, none⟩) T T) ((List.range T).map fun j => .int .i64 (F j))
theorem set_map_range {T k : Nat} {f : Nat → Value} (hk : k < T) (u : Value) : ((List.range T).map f).set k u = (List.range T).map fun j => if j = k then u else f j := by
  apply List.ext_getElem?
  intro i
  rw [List.getElem?_set]
  by_cases hi : i < T
  · by_cases e : k = i
    · subst e; simp [hk]
    · have e' : ¬ i = k := fun h => e h.symm
      simp [e, e', hi]
  · have h1 : ((List.range T).map f)[i]? = none := by simp; omega
    have h2 : ((List.range T).map fun j => if j = k then u else f j)[i]? = none := by simp; omega
    rw [h2, if_neg (by omega), h1]
theorem Row64.ow {w : World} {B g T : Nat} {F : Nat → Int} (h : Row64 w B g T F) : w.ownsRow B 2 1 (.slice (some ⟨g, 0, none⟩) T T) T ((List.range T).map fun j => .int .i64 (F j)) := by
  have := h
  unfold Row64 Own1 at this
  rw [List.length_map, List.length_range] at this
  exact this
theorem Row64.of_ow {w : World} {B g T : Nat} {F : Nat → Int} (h : w.ownsRow B 2 1 (.slice (some ⟨g, 0, none⟩) T T) T ((List.range T).map fun j => .int .i64 (F j))) : Row64 w B g T F := by
  unfold Row64 Own1
  rw [List.length_map, List.length_range]
  exact h
theorem Row64.put {w : World} {B g T : Nat} {F : Nat → Int} (h : Row64 w B g T F) {k : Nat} (hk : k < T) (z : Int) : Row64 (w.setCell ⟨g, k, none⟩ (.int .i64 z)) B g T (fun j => if j = k then z else F j) := by
  have h2 := (World.ownsRow.stored h.ow k (.int .i64 z)).1
  rw [set_map_range hk] at h2
  refine Row64.of_ow ?_
  have e : ((List.range T).map fun j => Value.int .i64 (if j = k then z else F j)) = (List.range T).map fun j => if j = k then .int .i64 z else .int .i64 (F j) := by
    apply List.map_congr_left
    intro j _
    split <;> rfl
  rw [e]
  exact h2
theorem Row64.cell {w : World} {B g T : Nat} {F : Nat → Int} (h : Row64 w B g T F) {k : Nat} (hk : k < T) : w.cell? ⟨g, k, none⟩ = some (.int .i64 (F k)) := by
  have := World.ownsRow.cellAt h.ow k (by omega)
  rw [this]
  simp [hk]
theorem Row64.frozen {w : World} {B g T : Nat} {F : Nat → Int} (h : Row64 w B g T F) (k : Nat) : w.frozen? ⟨g, k, none⟩ = false := World.ownsRow.frozenAt h.ow k
theorem Row64.low {w : World} {B g T : Nat} {F : Nat → Int} (h : Row64 w B g T F) : B ≤ g ∧ g < w.heap.size := World.ownsRow.lt h.ow g rfl

/-- what a line leaves of the row: each place is as it was or as it is to be; the line's own are as they are to be -/
def LineR (w : World) (B g T at' n step : Nat) (Z F : Nat → Int) (e : Ending) (w' : World) : Prop :=
  e = .returned (.bool true) ∧ Only g w w' ∧ ∃ F', Row64 w' B g T F' ∧ (∀ i, i < n → F' (at' + i * step) = Z (at' + i * step)) ∧ ∀ j, F' j = F j ∨ F' j = Z j

theorem line_done {at' step i I : Nat} {Z F' Y : Nat → Int} {v : Int} (h2 : Y (i + 1) = v) (h3 : Z I = Y (i + 1)) (hI : I = at' + i * step) (hd : ∀ j, j < i → F' (at' + j * step) = Z (at' + j * step)) :
    ∀ j, j < i + 1 → (fun j => if j = I then v else F' j) (at' + j * step) = Z (at' + j * step) := by
  intro j hj
  show (if at' + j * step = I then v else F' (at' + j * step)) = _
  by_cases e : at' + j * step = I
  · rw [if_pos e, e, h3, h2]
  · rw [if_neg e]
    refine hd j ?_
    rcases Nat.lt_or_ge j i with h | h
    · exact h
    · obtain rfl : j = i := by omega
      exact absurd hI.symm e
theorem line_or {i I : Nat} {Z F F' Y : Nat → Int} {v : Int} (h2 : Y (i + 1) = v) (h3 : Z I = Y (i + 1)) (ho : ∀ j, F' j = F j ∨ F' j = Z j) :
    ∀ j, (fun j => if j = I then v else F' j) j = F j ∨ (fun j => if j = I then v else F' j) j = Z j := by
  intro j
  show (if j = I then v else F' j) = _ ∨ (if j = I then v else F' j) = _
  by_cases e : j = I
  · subst e; rw [if_pos rfl, h3, h2]; exact .inr rfl
  · rw [if_neg e]; exact ho j

set_option maxRecDepth 100000 in
set_option maxHeartbeats 1000000 in
theorem line_add (b o0 c T g B at' n step : Nat) (L Z F : Nat → Int) (Sz : Nat → Int) (w : World) (hT : T ≤ 1000000) (hn : n ≤ 1000)
    (hrow : Row64 w B g T F) (hbg : b ≠ g) (hc : ∀ i, i < T → w.cell? ⟨b, o0 + i, none⟩ = some (.int .i64 (L i))) (hidx : ∀ i, i < n → at' + i * step < T)
    (hLg : ∀ i, i < T → Good (L i)) (hS0 : Sz 0 = 0) (hSz : ∀ i, i < n → Sz (i + 1) = Sz i + max (L (at' + i * step)) (- L (at' + i * step))) (hSg : ∀ i, i ≤ n → Good (Sz i))
    (Y : Nat → Int) (hY0 : Y 0 = 0) (hY : ∀ i, i < n → Y (i + 1) = Y i + L (at' + i * step)) (hYg : ∀ i, i ≤ n → Good (Y i)) (hZ : ∀ i, i < n → Z (at' + i * step) = Y (i + 1)) :
    Calls Tryz.prog 72 #[.int .i64 1, .slice (some ⟨b, o0, none⟩) T c, .slice (some ⟨g, 0, none⟩) T T, .int .i64 (at' : Int), .int .i64 (n : Int), .int .i64 (step : Int)] w (LineR w B g T at' n step Z F) := by
  have HROW := Lib.hid hrow
  have HC := Lib.hid hc
  have HIX := Lib.hid hidx
  have HLG := Lib.hid hLg
  have HS0 := Lib.hid hS0
  have HSZ := Lib.hid hSz
  have HSG := Lib.hid hSg
  have HY0 := Lib.hid hY0
  have HY := Lib.hid hY
  have HYG := Lib.hid hYg
  have HZ := Lib.hid hZ
  clear hrow hc hidx hLg hS0 hSz hSg hY0 hY hYg hZ
  go_enter Tryz.func72, Tryz.ntmps72
  go_wp2_with fail
  go_loopw [13, 14, 19] (fun sz sm ii wr => ∃ i : Nat, i ≤ n ∧ ii = .int .i64 i ∧ sz = .int .i64 (Sz i) ∧ sm = .int .i64 (Y i) ∧ Only g w wr ∧ ∃ F', Row64 wr B g T F' ∧ (∀ j, j < i → F' (at' + j * step) = Z (at' + j * step)) ∧ ∀ j, F' j = F j ∨ F' j = Z j) (fun _ _ ii _ => n - (intOf ii).toNat)
  case atStart => exact ⟨0, Nat.zero_le _, rfl, by rw [HS0.out], by rw [HY0.out], Only.refl g w, F, HROW.out, fun j hj => absurd hj (Nat.not_lt_zero _), fun j => .inl rfl⟩
  case round =>
    obtain ⟨i, hi, rfl, rfl, rfl, hon, F', hrow, hdone, hor⟩ := hrel
    have HON := Lib.hid hon
    have HROW' := Lib.hid hrow
    have HDONE := Lib.hid hdone
    have HOR := Lib.hid hor
    clear hon hrow hdone hor
    by_cases hlt : i < n
    · obtain ⟨Q, eQ⟩ : ∃ Q, Q = i * step := ⟨_, rfl⟩
      obtain ⟨I, eI⟩ : ∃ I, I = at' + Q := ⟨_, rfl⟩
      have hI : I < T := by rw [eI, eQ]; exact HIX.out i hlt
      have f1 : (i : Int) * (step : Int) = (Q : Int) := by rw [eQ]; push_cast; rfl
      have f2 : (at' : Int) + (Q : Int) = (I : Int) := by rw [eI]; push_cast; rfl
      have hci := HON.out.cell (HC.out I hI) hbg
      have hco := HROW'.out.cell hI
      have hfo := HROW'.out.frozen I
      have eI' : I = at' + i * step := by rw [eI, eQ]
      have HEI := Lib.hid eI'
      have h1 := HSZ.out i hlt
      have h2 := HY.out i hlt
      have h3 := HZ.out i hlt
      rw [← eI'] at h1 h2 h3
      obtain ⟨l1, l2⟩ := HLG.out I hI
      obtain ⟨s1, s2⟩ := HSG.out i hi
      obtain ⟨s3, s4⟩ := HSG.out (i + 1) hlt
      obtain ⟨y1, y2⟩ := HYG.out i hi
      obtain ⟨y3, y4⟩ := HYG.out (i + 1) hlt
      clear eQ eI eI'
      have HAI := Lib.hid (addInt_good (Sz i) (max (L I) (-L I)) ⟨s1, s2⟩ ⟨by omega, by omega⟩ (by rw [← h1]; exact ⟨s3, s4⟩))
      have H1 := Lib.hid h1
      have H2 := Lib.hid h2
      have H3 := Lib.hid h3
      rw [h2] at y3 y4
      clear h1 h2 h3 s3 s4
      generalize L I = x at *
      go_wp2_with fail
      refine (HAI.out _).mono ?_
      rintro e w' ⟨rfl, rfl⟩
      rw [← H1.out]
      go_wp2
      go_roundw
      case rel =>
        exact ⟨i + 1, by omega, by go_num, rfl, by rw [H2.out], HON.out.set I _, _, HROW'.out.put hI _, line_done H2.out H3.out HEI.out HDONE.out, line_or H2.out H3.out HOR.out⟩
      case measure => simp [intOf]; omega
    · obtain rfl : i = n := by omega
      go_wp2
      go_ret
      exact ⟨rfl, HON.out, F', HROW'.out, HDONE.out, HOR.out⟩
theorem ofInt_64 (a : Nat) (ha : a < 18446744073709551616) : (BitVec.ofInt 64 (a : Int)).toNat = a := by
  rw [BitVec.ofInt_natCast, BitVec.toNat_ofNat]; exact Nat.mod_eq_of_lt (by omega)
theorem and_one_i64 (i : Nat) (h : i ≤ 1000000) : bits .and .i64 (i : Int) 1 = ((i % 2 : Nat) : Int) := by
  show IntKind.i64.wrap ((BitVec.ofInt 64 (i : Int) &&& BitVec.ofInt 64 ((1 : Nat) : Int)).toNat : Int) = _
  rw [BitVec.toNat_and, ofInt_64 i (by omega), ofInt_64 1 (by omega), Nat.and_one_is_mod, IntKind.wrap_i64]
  omega

set_option maxRecDepth 100000 in
set_option maxHeartbeats 1000000 in
theorem line_sub (b o0 c T g B at' n step : Nat) (L Z F : Nat → Int) (Sz : Nat → Int) (w : World) (hT : T ≤ 1000000) (hn : n ≤ 1000)
    (hrow : Row64 w B g T F) (hbg : b ≠ g) (hc : ∀ i, i < T → w.cell? ⟨b, o0 + i, none⟩ = some (.int .i64 (L i))) (hidx : ∀ i, i < n → at' + i * step < T)
    (hLg : ∀ i, i < T → Good (L i)) (hS0 : Sz 0 = 0) (hSz : ∀ i, i < n → Sz (i + 1) = Sz i + max (L (at' + i * step)) (- L (at' + i * step))) (hSg : ∀ i, i ≤ n → Good (Sz i))
    (Y : Nat → Int) (hY0 : Y 0 = 0) (hY : ∀ i, i < n → Y (i + 1) = Y i + if i % 2 = 1 then - L (at' + i * step) else L (at' + i * step)) (hYg : ∀ i, i ≤ n → Good (Y i)) (hZ : ∀ i, i < n → Z (at' + i * step) = Y (i + 1)) :
    Calls Tryz.prog 72 #[.int .i64 2, .slice (some ⟨b, o0, none⟩) T c, .slice (some ⟨g, 0, none⟩) T T, .int .i64 (at' : Int), .int .i64 (n : Int), .int .i64 (step : Int)] w (LineR w B g T at' n step Z F) := by
  have HROW := Lib.hid hrow
  have HC := Lib.hid hc
  have HIX := Lib.hid hidx
  have HLG := Lib.hid hLg
  have HS0 := Lib.hid hS0
  have HSZ := Lib.hid hSz
  have HSG := Lib.hid hSg
  have HY0 := Lib.hid hY0
  have HY := Lib.hid hY
  have HYG := Lib.hid hYg
  have HZ := Lib.hid hZ
  clear hrow hc hidx hLg hS0 hSz hSg hY0 hY hYg hZ
  go_enter Tryz.func72, Tryz.ntmps72
  go_wp2_with fail
  go_loopw [13, 14, 19] (fun sz sm ii wr => ∃ i : Nat, i ≤ n ∧ ii = .int .i64 i ∧ sz = .int .i64 (Sz i) ∧ sm = .int .i64 (Y i) ∧ Only g w wr ∧ ∃ F', Row64 wr B g T F' ∧ (∀ j, j < i → F' (at' + j * step) = Z (at' + j * step)) ∧ ∀ j, F' j = F j ∨ F' j = Z j) (fun _ _ ii _ => n - (intOf ii).toNat)
  case atStart => exact ⟨0, Nat.zero_le _, rfl, by rw [HS0.out], by rw [HY0.out], Only.refl g w, F, HROW.out, fun j hj => absurd hj (Nat.not_lt_zero _), fun j => .inl rfl⟩
  case round =>
    obtain ⟨i, hi, rfl, rfl, rfl, hon, F', hrow, hdone, hor⟩ := hrel
    have HON := Lib.hid hon
    have HROW' := Lib.hid hrow
    have HDONE := Lib.hid hdone
    have HOR := Lib.hid hor
    clear hon hrow hdone hor
    by_cases hlt : i < n
    · obtain ⟨Q, eQ⟩ : ∃ Q, Q = i * step := ⟨_, rfl⟩
      obtain ⟨I, eI⟩ : ∃ I, I = at' + Q := ⟨_, rfl⟩
      have hI : I < T := by rw [eI, eQ]; exact HIX.out i hlt
      have f1 : (i : Int) * (step : Int) = (Q : Int) := by rw [eQ]; push_cast; rfl
      have f2 : (at' : Int) + (Q : Int) = (I : Int) := by rw [eI]; push_cast; rfl
      have hci := HON.out.cell (HC.out I hI) hbg
      have hco := HROW'.out.cell hI
      have hfo := HROW'.out.frozen I
      have eI' : I = at' + i * step := by rw [eI, eQ]
      have HEI := Lib.hid eI'
      have h1 := HSZ.out i hlt
      have h2 := HY.out i hlt
      have h3 := HZ.out i hlt
      rw [← eI'] at h1 h2 h3
      obtain ⟨l1, l2⟩ := HLG.out I hI
      obtain ⟨s1, s2⟩ := HSG.out i hi
      obtain ⟨s3, s4⟩ := HSG.out (i + 1) hlt
      obtain ⟨y1, y2⟩ := HYG.out i hi
      obtain ⟨y3, y4⟩ := HYG.out (i + 1) hlt
      clear eQ eI eI'
      have HAI := Lib.hid (addInt_good (Sz i) (max (L I) (-L I)) ⟨s1, s2⟩ ⟨by omega, by omega⟩ (by rw [← h1]; exact ⟨s3, s4⟩))
      have H1 := Lib.hid h1
      have H2 := Lib.hid h2
      have H3 := Lib.hid h3
      rw [h2] at y3 y4
      clear h1 h2 h3 s3 s4
      rcases Nat.mod_two_eq_zero_or_one i with hp | hp
      · rw [if_neg (by omega)] at H2 y3 y4
        have hbit : bits .and .i64 (i : Int) 1 = 0 := by rw [and_one_i64 i (by omega), hp]; rfl
        clear hp
        generalize L I = x at *
        go_wp2_with fail
        refine (HAI.out _).mono ?_
        rintro e w' ⟨rfl, rfl⟩
        rw [← H1.out]
        go_wp2
        go_roundw
        case rel =>
          exact ⟨i + 1, by omega, by go_num, rfl, by rw [H2.out], HON.out.set I _, _, HROW'.out.put hI _, line_done H2.out H3.out HEI.out HDONE.out, line_or H2.out H3.out HOR.out⟩
        case measure => simp [intOf]; omega
      · rw [if_pos hp] at H2 y3 y4
        have hbit : bits .and .i64 (i : Int) 1 = 1 := by rw [and_one_i64 i (by omega), hp]; rfl
        clear hp
        generalize L I = x at *
        go_wp2_with fail
        rw [Int.max_comm]
        refine (HAI.out _).mono ?_
        rintro e w' ⟨rfl, rfl⟩
        rw [← H1.out]
        go_wp2
        go_roundw
        case rel =>
          exact ⟨i + 1, by omega, by go_num, rfl, by rw [H2.out], HON.out.set I _, _, HROW'.out.put hI _, line_done H2.out H3.out HEI.out HDONE.out, line_or H2.out H3.out HOR.out⟩
        case measure => simp [intOf]; omega
    · obtain rfl : i = n := by omega
      go_wp2
      go_ret
      exact ⟨rfl, HON.out, F', HROW'.out, HDONE.out, HOR.out⟩
end Go.Proofs.YtdddmehchfnppaaGreatDoor
namespace Go.Proofs.YtdddmehchfnppaaGreatDoor
open Go Go.RowKit Go.Proofs Fl

/-- does a relation hold of the two truths that a place of a table of four stands for? -/
def tbR (f : Int) (j : Nat) : Bool := relB f (fi ((j / 2 : Nat) : Int)) (fi ((j % 2 : Nat) : Int))

theorem or_core : ∀ T : Fin 16, ∀ k : Fin 4, bits BinOp.or IntKind.u8 (T.val : Int) (2 ^ k.val % 256) = ((T.val ||| 2 ^ k.val : Nat) : Int) := by decide +kernel

set_option maxRecDepth 100000 in
set_option maxHeartbeats 1000000 in
theorem rtable_any (f : Int) (hf : 11 ≤ f) (hf2 : f ≤ 16) (w : World) :
    Calls Tryz.prog 98 #[.int .i64 f] w fun e w' => ∃ t : Nat, e = .returned (.int .u8 (t : Int)) ∧ (t < 16 ∧ ∀ j, j < 4 → t.testBit j = tbR f j) ∧ w = w' := by
  have HONE := Lib.hid (fun k (hk : k < 4) W => relate_any f hf hf2 (fi ((k / 2 : Nat) : Int)) (fi ((k % 2 : Nat) : Int)) (tf_fi ⟨by omega, by omega⟩) (tf_fi ⟨by omega, by omega⟩) W)
  clear hf hf2
  go_enter Tryz.func98, Tryz.ntmps98
  go_wp2
  go_loop [3, 7] (fun t i => ∃ k T : Nat, k ≤ 4 ∧ i = .int .i64 k ∧ t = .int .u8 (T : Int) ∧ T < 2 ^ k ∧ ∀ j, j < k → T.testBit j = tbR f j) (fun _ i => 4 - (intOf i).toNat)
  case atStart => exact ⟨0, 0, by omega, rfl, rfl, by decide, fun j hj => absurd hj (Nat.not_lt_zero _)⟩
  case round =>
    obtain ⟨k, T, hk, rfl, rfl, hT, hb⟩ := hrel
    have HT := Lib.hid hT
    have HB := Lib.hid hb
    clear hT hb
    by_cases hlt : k < 4
    · have HO := Lib.hid (HONE.out k hlt)
      have e1 : bits .and .i64 (k : Int) 1 = ((k % 2 : Nat) : Int) := and_one_i64 k (by omega)
      have hlt2 : (k : Int) < 4 := by omega
      have HTB : Hid (tbR f k = relB f (fi ((k / 2 : Nat) : Int)) (fi ((k % 2 : Nat) : Int))) := rfl
      generalize relB f (fi ((k / 2 : Nat) : Int)) (fi ((k % 2 : Nat) : Int)) = tt at *
      go_wp2_with fail
      refine (HO.out _).mono ?_
      rintro e w' ⟨rfl, rfl⟩
      have hk3 : 2 ^ k ≤ 8 := by
        have := Nat.pow_le_pow_right (n := 2) (by decide) (show k ≤ 3 by omega)
        exact this
      have HOR : Hid (bits BinOp.or IntKind.u8 (T : Int) (2 ^ k % 256) = ((T ||| 2 ^ k : Nat) : Int)) := or_core ⟨T, by have := HT.out; omega⟩ ⟨k, hlt⟩
      have hp : (2 : Nat) ^ (k + 1) = 2 ^ k * 2 := Nat.pow_succ 2 k
      have HP := Lib.hid hp
      clear hp
      cases tt with
      | true =>
        have HN1 : Hid (T ||| 2 ^ k < 2 ^ (k + 1)) := Nat.or_lt_two_pow (by have := HT.out; have := HP.out; omega) (by have := HP.out; have := Nat.two_pow_pos k; omega)
        have HN2 : Hid (∀ j, j < k + 1 → (T ||| 2 ^ k).testBit j = tbR f j) := fun j hj => by
          rw [Nat.testBit_or, Nat.testBit_two_pow]
          by_cases e : j = k
          · subst e
            rw [HTB.out]
            simp
          · rw [HB.out j (by omega)]
            have : ¬ k = j := fun h => e h.symm
            simp [this]
        clear hk3
        go_wp2
        rw [HOR.out]
        go_round
        case rel => exact ⟨k + 1, T ||| 2 ^ k, by omega, by go_num, rfl, HN1.out, HN2.out⟩
        case measure => simp [intOf]; omega
      | false =>
        have HN1 : Hid (T < 2 ^ (k + 1)) := by have := HT.out; have := HP.out; show T < _; omega
        have HN2 : Hid (∀ j, j < k + 1 → T.testBit j = tbR f j) := fun j hj => by
          by_cases e : j = k
          · subst e
            rw [HTB.out]
            exact Nat.testBit_lt_two_pow HT.out
          · exact HB.out j (by omega)
        clear hk3
        go_wp2
        go_round
        case rel => exact ⟨k + 1, T, by omega, by go_num, rfl, HN1.out, HN2.out⟩
        case measure => simp [intOf]; omega
    · obtain rfl : k = 4 := by omega
      go_wp2
      go_ret
      exact ⟨T, rfl, ⟨HT.out, HB.out⟩, rfl⟩
end Go.Proofs.YtdddmehchfnppaaGreatDoor
