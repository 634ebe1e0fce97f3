/- Merged texts. The walk of scan.packed at any function. Conditions: the table of math/bits reads as its text lays it. The statement ScanRows, from what its parts tell. Conditions: as each theorem says. -/
import Derived.Test.YtdddmehchfnppaaGreatDoorMg47
import Derived.Test.YtdddmehchfnppaaGreatDoorMg46
import Derived.Test.YtdddmehchfnppaaGreatDoorMg36
namespace Go.Proofs.YtdddmehchfnppaaGreatDoor
open Go Go.RowKit Go.Proofs Fl

/-- rows of truths that scan.row made -/
def RowsMade (q : Int) (l : Nat → Bool) (n M B g outer j : Nat) (w : World) : Prop :=
  ∃ (G : Nat → Nat) (L : Nat → Nat → Bool), VFill w g outer n j (fun i => (some ⟨G i, 0, none⟩, M, M)) ∧ ∀ i, i < j → RowU w B (G i) M (packW (L i) n) ∧ SrL q (rowl l n i) n (L i)
theorem RowsMade.below {q : Int} {l : Nat → Bool} {n M B g outer j : Nat} {w w' : World} (h : RowsMade q l n M B g outer j w) (hb : Below w.heap.size w w') : RowsMade q l n M B g outer j w' := by
  obtain ⟨G, L, h1, h2⟩ := h
  exact ⟨G, L, h1.below hb, fun i hi => ⟨(h2 i hi).1.below hb, (h2 i hi).2⟩⟩
theorem RowsMade.lt {q : Int} {l : Nat → Bool} {n M B g outer j : Nat} {w : World} (h : RowsMade q l n M B g outer j w) : g < w.heap.size := by
  obtain ⟨G, L, h1, _⟩ := h
  exact h1.lt
theorem RowsMade.open {q : Int} {l : Nat → Bool} {n M B g outer j : Nat} {w : World} (h : RowsMade q l n M B g outer j w) (hj : j < outer) :
    w.cell? ⟨g, j * 8, none⟩ = some (.int .i64 0) ∧ w.cell? ⟨g, j * 8 + 1, none⟩ = some vnil ∧ w.cell? ⟨g, j * 8 + 2, none⟩ = some (.int .i64 0) ∧ w.cell? ⟨g, j * 8 + 3, none⟩ = some vnil ∧
    w.cell? ⟨g, j * 8 + 4, none⟩ = some vnil ∧ w.cell? ⟨g, j * 8 + 5, none⟩ = some vnil ∧ w.cell? ⟨g, j * 8 + 6, none⟩ = some vnil ∧ w.cell? ⟨g, j * 8 + 7, none⟩ = some vnil ∧ ∀ p, w.frozen? ⟨g, p, none⟩ = false := by
  obtain ⟨G, L, h1, _⟩ := h
  exact h1.open hj
theorem RowsMade.put {q : Int} {l : Nat → Bool} {n M B g outer j : Nat} {w : World} (h : RowsMade q l n M B g outer j w) (hj : j < outer) (hgB : g < B) {g' : Nat} {L' : Nat → Bool} (hr : RowU w B g' M (packW L' n)) (hs : SrL q (rowl l n j) n L') :
    RowsMade q l n M B g outer (j + 1) (set8o w g (j * 8) (.int .i64 1) (.slice (some ⟨g', 0, none⟩) M M) (.int .i64 n) vnil vnil vnil vnil vnil) := by
  obtain ⟨G, L, h1, h2⟩ := h
  refine ⟨fun i => if i = j then g' else G i, fun i => if i = j then L' else L i, ?_, fun i hi => ?_⟩
  · have := h1.put hj (S' := fun i => (some ⟨if i = j then g' else G i, 0, none⟩, M, M)) (fun i hi => by
      have : ¬ i = j := by omega
      simp [this])
    simpa using this
  · by_cases e : i = j
    · subst e
      simp only [if_true]
      refine ⟨own_set8o hr (by have := hr.low; show some g' ≠ some g; intro e; injection e; omega) _ _ _ _ _ _ _ _ _, hs⟩
    · simp only [e, if_false]
      obtain ⟨a, b⟩ := h2 i (by omega)
      exact ⟨own_set8o a (by have := a.low; show some (G i) ≠ some g; intro e; injection e; omega) _ _ _ _ _ _ _ _ _, b⟩
theorem RowsMade.new {q : Int} {l : Nat → Bool} {n M B outer : Nat} (w : World) : RowsMade q l n M B w.heap.size outer 0 (w.alloc (.cells (madeCells zcells (outer * 8)) 32)) :=
  ⟨fun _ => 0, fun _ _ => false, VFill.made w outer n _, fun _ hi => absurd hi (Nat.not_lt_zero _)⟩

theorem leastF_flags (F : Nat → Nat) (n : Nat) (L : Nat → Bool) (h : ∀ j, j < n → F j = flagF (L j)) : leastF F n = 1 := by
  induction n with
  | zero => rfl
  | succ k ih =>
    have h1 := ih fun j hj => h j (by omega)
    have h2 : leastF F (k + 1) = max (leastF F k) (rankF (F k)) := rfl
    have h3 : rankF (F k) = 1 := by
      rw [h k (by omega), flagF_fi, rankF_fi (good_flag _)]
      cases L k <;> rfl
    rw [h2, h1, h3]; rfl
theorem bitsIn_reads {W : World} {g M n : Nat} {l : Nat → Bool} (h : Reads1 W (.slice (some ⟨g, 0, none⟩) M M) ((List.range M).map fun j => .int .u64 (packW l n j : Nat))) (hM : M = (n + 63) / 64) : BitsIn W (.agg #[.slice (some ⟨g, 0, none⟩) M M, .int .i64 (n : Int)]) n l := by
  subst hM
  exact ⟨g, 0, _, rfl, fun j hj => reads_cell h j hj⟩
theorem pk_all (pw : Nat → Nat → Nat × Int) (q : Int) (l : Nat → Bool) (n : Nat) (L : Nat → Nat → Bool) (X : Nat → Nat) (outer T : Nat) (hT : T = outer * n) (hn : 1 ≤ n) (hb : n ≤ 1000) (hX : ∀ j, j < T → X j = fi (bI (l j))) (hs : ∀ i, i < outer → SrL q (rowl l n i) n (L i)) :
    ∀ j, j < T → scanR (oneP pw q) X n 1 j = some (fi (bI (rowsB L n j))) := by
  intro j hj
  have hd : n * (j / n) + j % n = j := Nat.div_add_mod j n
  have hm : j % n < n := Nat.mod_lt _ hn
  have ho : j / n < outer := Nat.div_lt_of_lt_mul (by rw [Nat.mul_comm, ← hT]; exact hj)
  have ej : j / n * n + j % n = j := by rw [Nat.mul_comm]; exact hd
  have e1 : scanR (oneP pw q) X n 1 j = rowR (oneP pw q) (lineF X n 1 (j / n) 0) (j % n + 1) := by
    have h := scanR_at (g := oneP pw q) (F := X) (n := n) (inner := 1) (o := j / n) (k := 0) (i := j % n) (by decide) hm
    rw [Nat.mul_one, Nat.add_zero, Nat.mul_one, ej] at h
    exact h
  rw [e1]
  exact srow_plain pw q (rowl l n (j / n)) n (L (j / n)) (hs _ ho) _ (fun i hi => by
    unfold lineF rowl
    rw [Nat.mul_one, Nat.add_zero, Nat.mul_one]
    refine hX _ ?_
    have h2 : (j / n + 1) * n ≤ outer * n := Nat.mul_le_mul_right _ ho
    rw [Nat.add_mul, ← hT] at h2
    omega) (by omega) (j % n) hm

set_option maxRecDepth 100000 in
set_option maxHeartbeats 1000000 in
theorem spacked_row (pw : Nat → Nat → Nat × Int) (H : Nat → Prop) (q : Int) (hq1 : q ≠ 1) (v : Value) (outer n T : Nat) (l : Nat → Bool) (X : Nat → Nat) (w : World) (hH : ∀ b, H b → b < w.heap.size)
    (hT : T = outer * n) (ho : 1 ≤ outer) (hn : 1 ≤ n) (hb1 : outer ≤ 1000) (hb2 : n ≤ 1000) (hb : BitsIn w v T l) (hX : ∀ j, j < T → X j = fi (bI (l j))) (ht : TzTab w) :
    Calls Tryz.prog 33 #[.int .i64 q, v, .int .i64 (outer : Int), .int .i64 (n : Int)] w (SwOut H w (scanR (oneP pw q) X n 1) T) := by
  have hTb : T ≤ 1000000 := by rw [hT]; exact Nat.mul_le_mul hb1 hb2
  have hbin := hb
  have HCUT := Lib.hid (fun W (hw : Below w.heap.size w W) a t (h1 : a ≤ t) (h2 : t ≤ T) => cut_in v T a t l W (by omega) h1 h2 (hb.below hw))
  have HTZ := Lib.hid ht
  have HH := Lib.hid hH
  have HTT := Lib.hid hT
  have HX := Lib.hid hX
  have q1 : (q == 1) = false := by simpa using hq1
  have hmk := fun W => run_make_vecs outer (by omega) W
  obtain ⟨b, o, c, rfl, _⟩ := hb
  obtain ⟨M, hM⟩ : ∃ M, M = (n + 63) / 64 := ⟨_, rfl⟩
  have HM := Lib.hid hM
  clear ht hH hX hT hq1 hbin hM
  obtain ⟨W0, eW0⟩ : ∃ W, W = (w.alloc (.cells #[.slice (some ⟨b, o, none⟩) ((T + 63) / 64) c, .int .i64 (T : Int)] 26)).alloc (.cells zcells 32) := ⟨_, rfl⟩
  have HW0 : Hid (W0.heap.size = w.heap.size + 2 ∧ Below w.heap.size w W0 ∧ W0.heap[w.heap.size]? = some (.cells #[.slice (some ⟨b, o, none⟩) ((T + 63) / 64) c, .int .i64 (T : Int)] 26) ∧ W0.heap[w.heap.size + 1]? = some (.cells zcells 32)) := by
    rw [eW0]
    refine ⟨by simp, bel2 w _ _, block_up (bel1 (w.alloc _) _), ?_⟩
    have h := heap_alloc_new (w.alloc (.cells #[.slice (some ⟨b, o, none⟩) ((T + 63) / 64) c, .int .i64 (T : Int)] 26)) (.cells zcells 32)
    rw [show (w.alloc (.cells #[.slice (some ⟨b, o, none⟩) ((T + 63) / 64) c, .int .i64 (T : Int)] 26)).heap.size = w.heap.size + 1 by simp] at h
    exact h
  have HBM : Hid (Below (w.heap.size + 2) W0 (W0.alloc (.cells (madeCells zcells (outer * 8)) 32))) := by
    have h := bel1 W0 (.cells (madeCells zcells (outer * 8)) 32)
    rw [HW0.out.1] at h
    exact h
  have HRM : Hid (RowsMade q l n M (w.heap.size + 3) (w.heap.size + 1 + 1) outer 0 (W0.alloc (.cells (madeCells zcells (outer * 8)) 32))) := by
    have h := RowsMade.new (q := q) (l := l) (n := n) (M := M) (B := w.heap.size + 3) (outer := outer) W0
    rw [HW0.out.1] at h
    exact h
  have HEW := Lib.hid eW0
  clear eW0
  go_enter Tryz.func33, Tryz.ntmps33
  go_wp2_with fail
  go_loopw [24] (fun j wr => ∃ m : Nat, m ≤ outer ∧ j = .int .i64 m ∧ RowsMade q l n M (w.heap.size + 3) (w.heap.size + 1 + 1) outer m wr ∧ Below (w.heap.size + 2) W0 wr) (fun j _ => outer - (intOf j).toNat)
  case atStart => exact ⟨0, Nat.zero_le _, rfl, by have h := HRM.out; rw [HEW.out] at h; exact h, by have h := HBM.out; rw [HEW.out] at h ⊢; exact h⟩
  case round =>
    clear hmk HRM HBM HEW
    obtain ⟨m, hm, rfl, hf, hbl⟩ := hrel
    have HF := Lib.hid hf
    have HBL := Lib.hid hbl
    have HBW := Lib.hid (HW0.out.2.1.trans (hbl.mono (by omega)))
    have HKB := Lib.hid (show wr.heap[w.heap.size]? = some (.cells #[.slice (some ⟨b, o, none⟩) ((T + 63) / 64) c, .int .i64 (T : Int)] 26) by rw [hbl.block _ (by omega)]; exact HW0.out.2.2.1)
    have HKV := Lib.hid (show wr.heap[w.heap.size + 1]? = some (.cells zcells 32) by rw [hbl.block _ (by omega)]; exact HW0.out.2.2.2)
    clear hf hbl
    by_cases hlt : m < outer
    · obtain ⟨A, eA⟩ : ∃ A, A = m * n := ⟨_, rfl⟩
      obtain ⟨B, eB⟩ : ∃ B, B = (m + 1) * n := ⟨_, rfl⟩
      have hBA : B = A + n := by rw [eA, eB, Nat.add_mul, Nat.one_mul]
      have hBT : B ≤ T := by rw [eB, HTT.out]; exact Nat.mul_le_mul_right _ hlt
      have f1 : (m : Int) * (n : Int) = (A : Int) := by rw [eA]; push_cast; rfl
      have f2 : ((m : Int) + 1) * (n : Int) = (B : Int) := by rw [eB]; push_cast; rfl
      have hlt2 : (m : Int) < (outer : Int) := by omega
      have HCT := Lib.hid (HCUT.out wr HBW.out A B (by omega) hBT)
      rw [show B - A = n by omega] at HCT
      have hAT : A ≤ 1000000 := by omega
      have hBb : B ≤ 1000000 := by omega
      have HRL : Hid ((fun i => l (A + i)) = rowl l n m) := by show _ = _; unfold rowl; rw [eA]
      rw [HRL.out] at HCT
      obtain ⟨hk0, hk1, hkf⟩ := pair_of HKB.out
      clear eA eB hBA hBT
      go_wp2_with fail
      refine HCT.out.mono ?_
      rintro e w3 ⟨v3, rfl, hbi, hb3⟩
      have HR3 := Lib.hid (srow_any q v3 n (rowl l n m) w3 (by omega) hbi (HTZ.out.below (bel_both HBW.out hb3)))
      have HB3 := Lib.hid hb3
      clear hb3 hbi hk0 hk1 hkf HCT
      unfold SrOut at HR3
      go_wp2_with fail
      refine HR3.out.mono ?_
      rintro e w4 ⟨hor, hb4⟩
      have HB4 := Lib.hid (bel_both HB3.out hb4)
      have hsz : wr.heap.size ≤ w3.heap.size := HB3.out.size
      have hkv := lt_of_block HKV.out
      rcases hor with ⟨g, L, rfl, hrow, hsr⟩ | rfl
      · have HSR := Lib.hid hsr
        rw [← HM.out] at hrow
        have hlow := hrow.low
        have hgr := HF.out.lt
        have HROW := Lib.hid (hrow.lower (show w.heap.size + 3 ≤ w3.heap.size by omega))
        rw [← HM.out]
        clear hb4 hrow hsr HR3
        have HKB4 := Lib.hid (heap_alloc_new w4 (.cells #[.slice (some ⟨g, 0, none⟩) M M, .int .i64 (n : Int)] 26))
        have HB5 := Lib.hid (bel_both HB4.out (bel1 w4 (.cells #[.slice (some ⟨g, 0, none⟩) M M, .int .i64 (n : Int)] 26)))
        have HROW5 := Lib.hid (HROW.out.below (bel1 w4 (.cells #[.slice (some ⟨g, 0, none⟩) M M, .int .i64 (n : Int)] 26)))
        go_wp2_with fail
        refine (vbits_any _ _ _ _ _).mono ?_
        rintro e w6 ⟨rfl, hb6⟩
        have HB6 := Lib.hid (bel_both HB5.out hb6)
        have HROW6 := Lib.hid (HROW5.out.below hb6)
        have HF6 := Lib.hid (HF.out.below HB6.out)
        obtain ⟨c0, c1, c2, c3, c4, c5, c6, c7, cf⟩ := HF6.out.open hlt
        have HP6 := Lib.hid (HF6.out.put hlt (Nat.lt_succ_self _) HROW6.out HSR.out)
        have HB7 := Lib.hid (below_set8o (HBL.out.trans (HB6.out.mono (show w.heap.size + 2 ≤ wr.heap.size from hkv))) (show w.heap.size + 2 ≤ w.heap.size + 1 + 1 from Nat.le_refl _) (m * 8) (.int .i64 1) (.slice (some ⟨g, 0, none⟩) M M) (.int .i64 n) vnil vnil vnil vnil vnil)
        clear hb6
        go_wp2
        go_roundw
        case rel => exact ⟨m + 1, by omega, by go_num, HP6.out, HB7.out⟩
        case measure => simp [intOf]; omega
      · have HB5 := Lib.hid (bel_both HBW.out (bel_both HB4.out (bel1 w4 (.cells #[vnil, .int .i64 0] 26))))
        have HKV5 := Lib.hid (show (w4.alloc (.cells #[vnil, .int .i64 0] 26)).heap[w.heap.size + 1]? = some (.cells zcells 32) by rw [(bel_both HB4.out (bel1 w4 _)).block _ hkv]; exact HKV.out)
        clear hb4 HR3
        obtain ⟨⟨h0, h1, h2, h3, h4, h5, h6, h7⟩, hz⟩ := boxed_of HKV5.out
        go_wp2
        refine bodyPost_ret (v := .tuple #[vecV 0 vnil 0 vnil vnil vnil vnil vnil, .bool false]) ?_ rfl (.inr ⟨rfl, below_set8 HB5.out (Nat.le_succ _) _ _ _ _ _ _ _ _⟩)
        exact ret_vec2 (fn := Tryz.f33) (p := 8) (u := 9) rfl _ _ (w.heap.size + 1) (by rfl) (set8_block HKV5.out _ _ _ _ _ _ _ _)
    · obtain rfl : m = outer := by omega
      have HJ : Hid (∃ (S : Nat → Sl) (L : Nat → Nat → Bool), VBits wr (w.heap.size + 1 + 1) m n L S ∧ ∀ i, i < m → SrL q (rowl l n i) n (L i)) := by
        obtain ⟨G, L, h1, h2⟩ := HF.out
        exact ⟨_, L, h1.bits (fun j hj => by have h := BitsIn.of_row (by rw [← HM.out]; exact (h2 j hj).1); rw [← HM.out] at h; exact h), fun i hi => (h2 i hi).2⟩
      obtain ⟨S, L, hvb, hsr⟩ := HJ.out
      have HSR := Lib.hid hsr
      have HJN := Lib.hid (join_bits (w.heap.size + 1 + 1) m m n T HTT.out L S wr ho hn hb1 hb2 hvb)
      clear hvb hsr HJ HCUT
      go_wp2_with fail
      refine HJN.out.mono ?_
      rintro e w2 ⟨g2, M2, hM2, rfl, hr2, hb2'⟩
      have HM2 := Lib.hid hM2
      have HB2 := Lib.hid (bel_both HBW.out hb2')
      have HK2 := Lib.hid (show w2.heap[w.heap.size + 1]? = some (.cells zcells 32) by rw [hb2'.block _ (lt_of_block HKV.out)]; exact HKV.out)
      have HR2 := Lib.hid hr2
      have HS2 := Lib.hid HBW.out.size
      have HKS := Lib.hid (lt_of_block HKV.out)
      clear hb2' hr2 hM2 HJN
      obtain ⟨⟨h0, h1, h2, h3, h4, h5, h6, h7⟩, hz⟩ := boxed_of HK2.out
      have hall := pk_all pw q l n L X m T HTT.out hn hb2 HX.out HSR.out
      go_wp2
      refine bodyPost_ret (v := .tuple #[vecV 1 (.slice (some ⟨g2, 0, none⟩) M2 M2) (T : Int) vnil vnil vnil vnil vnil, .bool true]) ?_ rfl (.inl ⟨fun cc hcc => ⟨_, hall cc hcc⟩, 1, (some ⟨g2, 0, none⟩, M2, M2), (T : Int), (none, 0, 0), (none, 0, 0), (none, 0, 0), (none, 0, 0), (none, 0, 0), rfl, ?_, below_set8 HB2.out (Nat.le_succ _) _ _ _ _ _ _ _ _⟩)
      · exact ret_vec2 (fn := Tryz.f33) (p := 8) (u := 9) rfl _ _ (w.heap.size + 1) (by rfl) (set8_block HK2.out _ _ _ _ _ _ _ _)
      · have hl := leastF_flags (getR (scanR (oneP pw q) X n 1)) T (rowsB L n) (fun j hj => by unfold getR; rw [hall j hj, flagF_bI]; rfl)
        rw [hl]
        have hk := (HR2.out.keepsH (H := fun j => H j ∨ j = w.heap.size + 1) (fun j e => by
          have h1 := HS2.out; have h2 := HKS.out
          rcases e with e | e
          · have := HH.out j e; omega
          · omega))
        refine (((hk.imp fun W' hrd => ?_).set8 (.inr rfl) _ _ _ _ _ _ _ _).sub (fun _ _ e => .inl e))
        refine (numV_bits (by omega) ⟨_, rfl, bitsIn_reads hrd HM2.out⟩).congr (fun j hj => ?_)
        unfold getR
        rw [hall j hj, flagF_bI]; rfl
/-- scan.packed, whatever function it is -/
theorem spacked_any (pw : Nat → Nat → Nat × Int) (H : Nat → Prop) (q : Int) (v : Value) (outer n T : Nat) (l : Nat → Bool) (X : Nat → Nat) (w : World) (hH : ∀ b, H b → b < w.heap.size)
    (hT : T = outer * n) (ho : 1 ≤ outer) (hn : 1 ≤ n) (hb1 : outer ≤ 1000) (hb2 : n ≤ 1000) (hb : BitsIn w v T l) (hX : ∀ j, j < T → X j = fi (bI (l j))) (ht : TzTab w) :
    Calls Tryz.prog 33 #[.int .i64 q, v, .int .i64 (outer : Int), .int .i64 (n : Int)] w (SwOut H w (scanR (oneP pw q) X n 1) T) := by
  by_cases h1 : q = 1
  · subst h1
    exact spacked_add pw H v outer n T l X w hH hT hb1 hb2 (by rw [hT]; exact Nat.mul_le_mul hb1 hb2) hb hX
  · exact spacked_row pw H q h1 v outer n T l X w hH hT ho hn hb1 hb2 hb hX ht
end Go.Proofs.YtdddmehchfnppaaGreatDoor
namespace Go.Proofs.YtdddmehchfnppaaGreatDoor
open Go Go.RowKit Go.Proofs Fl

/-- scan.packed where scan.Scan calls it -/
theorem packed_of (pw : Nat → Nat → Nat × Int) (q : Int) (k : Int) (b : Sl) (bn : Int) (s i f c x : Sl) (T outer n inner : Nat) (F : Nat → Nat) (w : World)
    (hT : T = outer * n * inner) (ho : 1 ≤ outer) (hn : 1 ≤ n) (hb1 : outer ≤ 1000) (hb2 : n ≤ 1000) (hN : ∀ W, Below w.heap.size w W → NumV (vecW k b bn s i f c x) k T F W) (ht : TzTab w) :
    k = 1 → inner = 1 → ∀ W, Below w.heap.size w W → Calls Tryz.prog 33 #[.int .i64 q, .agg #[.slice b.1 b.2.1 b.2.2, .int .i64 bn], .int .i64 (outer : Int), .int .i64 (n : Int)] W (SwOut (Hole (fun _ => False) w W) W (scanR (oneP pw q) F n 1) T) := by
  rintro rfl rfl W hw
  obtain ⟨rfl, L, hbits, hf⟩ := (hN W hw).bits
  exact spacked_any pw (Hole (fun _ => False) w W) q _ outer n T L F W (hole_lt (fun _ h => h.elim) hw) (by rw [hT, Nat.mul_one]) ho hn hb1 hb2 hbits.in (fun j hj => by rw [hf j hj, flagF_bI]) (ht.below hw)

theorem scanRows_in (f : Int) (a : Option Addr) (n c : Nat) (o r : Nat) (kd : Int) (F : Nat → Nat) (w : World) (hn : n ≤ 200) (ho : o ≤ 200) (hr : r ≤ 200) (hnc : n ≤ c)
    (hv : Reads1 w (.slice a n c) ((List.range n).map fun j => .float .f64 (F j))) (hF : ∀ j, j < n → F j < 18446744073709551616) (ht : TzTab w) :
    Calls Tryz.prog 3 #[.int .i64 f, .slice a n c, .int .i64 (o : Int), .int .i64 (r : Int), .int .i64 kd] w fun e w' => e = .returned (.bool true) ∧ Below w.heap.size w w' := by
  obtain ⟨q, T, hQ, hT, hq⟩ := rowsN n o r
  have hTn := hQ.tn
  have hvT : Reads1 w (.slice a T c) ((List.range T).map fun j => .float .f64 (F j)) := by
    obtain ⟨a2, c2, e, hc⟩ := reads_at hv
    injection e with e1 _ e3
    subst e1; subst e3
    by_cases h0 : T = 0
    · subst h0; exact .inl ⟨a, c, rfl, rfl⟩
    · obtain ⟨b, o2, rfl, _⟩ := hc 0 (by omega)
      refine .inr ⟨b, o2, T, c, rfl, by simp, fun i hi => ?_⟩
      have hi' : i < T := by simpa using hi
      rw [reads_cell hv i (by omega)]
      simp
  have hFT : ∀ j, j < T → F j < 18446744073709551616 := fun j hj => hF j (by omega)
  have hkept := skept_all (fun _ => False) (.slice a T c) kd T F w (fun _ h => h.elim) (by omega) hvT hFT
  rcases first_bad (fun j => okF (F j)) T with hall | ⟨K, hK, hbad, _⟩
  · have hG : ∀ j, j < T → TF (tidF (F j)) := fun j hj => by
      rcases ok_cases (hFT j hj) with h | h
      · exact h.2.1
      · rw [hall j hj] at h; cases h.1
    have hK : Calls Tryz.prog 7 #[.slice a T c, .int .i64 kd] w (KeptOk T (fun j => tidF (F j)) w) := by
      refine hkept.mono ?_
      rintro e w' (⟨_, k, b, bn, s, i, f, cc, x, rfl, _, hk, hb⟩ | ⟨⟨j, hj, h0⟩, _⟩)
      · exact ⟨k, b, bn, s, i, f, cc, x, rfl, fun W' hW => (hk.step hW).now, hb⟩
      · rw [hall j hj] at h0; cases h0
    have hTd : ∀ W, Below w.heap.size w W → Calls Tryz.prog 8 #[.slice a T c] W (TidyOk T (fun j => tidF (F j)) W) := by
      intro W hb
      refine (rtidyL_any (hvT.below hb) (by omega) hFT hall).mono ?_
      rintro e w' ⟨v, rfl, hv, hb2⟩
      exact ⟨v, rfl, hv.reads, hb2⟩
    obtain ⟨G, hGe⟩ : ∃ G : Nat → Nat, G = fun j => tidF (F j) := ⟨_, rfl⟩
    rw [← hGe] at hK hTd
    have hG : ∀ j, j < T → TF (G j) := fun j hj => by rw [hGe]; exact hG j hj
    clear hGe
    cases hkn : knownB f with
    | false =>
      exact scanRows_err f a n c o r kd q T G 1 w hn ho hr hnc hQ hK hTd (fun W k b bn s i f' g x hb hN => scan_unknown f hkn _ _ _ _ _ _ _ _ _ _ _ W) (fun W v hb hv => rscan_unknown f hkn _ _ _ _ W) (by decide)
    | true =>
      have hqn : q ≤ 200 := by have := hQ.q1; omega
      have hR : ∀ W v, Below w.heap.size w W → Reads1 W v ((List.range T).map fun j => .float .f64 (G j)) → Calls Tryz.prog 10 #[.int .i64 f, v, .int .i64 (o : Int), .int .i64 (q : Int), .int .i64 (r : Int)] W (RfOut T (scanR (oneP pwP f) G q r) W) :=
        fun W v hb hv => rscan_any powIs f hkn v T o q r G W hT (by omega) (by omega) (by omega) (by omega) hv hG
      by_cases hq1 : q ≤ 1
      · have hrow : ∀ cc, cc < T → scanR (oneP pwP f) G q r cc = some (G cc) := by
          intro cc hcc
          obtain rfl : q = 1 := by
            rcases Nat.eq_zero_or_pos q with e | e
            · rw [hT, e] at hcc; simp at hcc
            · omega
          exact scanR_one _ G o r cc (by rw [← hT]; exact hcc)
        refine scanRows_ok f a n c o r kd _ T T G G w hn ho hr hnc hQ hK hTd (fun W k b bn s i f' g x hb hN => ?_) (fun W v hb hv => (hR W v hb hv).mono (rowOk_of hrow)) (by omega) hG
        refine (scan_few f hkn k b bn s i f' g x o q r hq1 W (fun W' h => (hN W' h).cls)).mono ?_
        rintro e w' ⟨rfl, hb⟩
        exact ⟨k, b, bn, s, i, f', g, x, rfl, fun W' h => hN W' (bel_both hb h), .inl (by omega), hb⟩
      · obtain ⟨o0, r0⟩ := hq.resolve_left (by omega)
        have hT0 : 0 < T := by rw [hT]; exact Nat.mul_pos (Nat.mul_pos o0 (by omega)) r0
        have hF2 : ∀ W (k : Int) (b : Sl) (bn : Int) (s i f' g x : Sl), Below w.heap.size w W → (∀ W', Below W.heap.size W W' → NumV (vecW k b bn s i f' g x) k T G W') → Calls Tryz.prog 9 #[.int .i64 f, vecW k b bn s i f' g x, .int .i64 (o : Int), .int .i64 (q : Int), .int .i64 (r : Int)] W (SlOut (fun _ => False) W (scanR (oneP pwP f) G q r) T) := by
          intro W k b bn s i f' g x hb hN
          exact scan_two powIs (fun _ => False) f hkn k b bn s i f' g x T o q r G W (fun _ h => h.elim) hT (by omega) (by omega) (by omega) (by omega) (by omega) (fun _ => hT0) (fun W' h => numX_of (hN W' h)) (packed_of pwP f k b bn s i f' g x T o q r G W hT o0 (by omega) (by omega) (by omega) hN (ht.below hb))
        by_cases hyes : ∀ cc, cc < T → ∃ y, scanR (oneP pwP f) G q r cc = some y
        · have hrow : ∀ cc, cc < T → scanR (oneP pwP f) G q r cc = some (getR (scanR (oneP pwP f) G q r) cc) := by
            intro cc hcc
            obtain ⟨y, hy⟩ := hyes cc hcc
            unfold getR
            rw [hy]; rfl
          refine scanRows_ok f a n c o r kd _ T T G (getR (scanR (oneP pwP f) G q r)) w hn ho hr hnc hQ hK hTd (fun W k b bn s i f' g x hb hN => ?_) (fun W v hb hv => (hR W v hb hv).mono (rowOk_of hrow)) (by omega) (fun cc hcc => scanR_tf f G o q r T hT hG cc _ hcc (hrow cc hcc))
          refine (hF2 W k b bn s i f' g x hb hN).mono ?_
          rintro e w' (⟨_, hv⟩ | ⟨⟨cc, hcc, h0⟩, _⟩)
          · exact vecOk_fold e w' hv
          · rw [hrow cc hcc] at h0; cases h0
        · have hbad : ∃ cc, cc < T ∧ scanR (oneP pwP f) G q r cc = none := by
            obtain ⟨cc, h1⟩ := Classical.not_forall.1 hyes
            obtain ⟨h2, h3⟩ := Classical.not_imp.1 h1
            refine ⟨cc, h2, ?_⟩
            cases he : scanR (oneP pwP f) G q r cc with
            | none => rfl
            | some y => exact absurd ⟨y, he⟩ h3
          refine scanRows_err f a n c o r kd _ T G 24 w hn ho hr hnc hQ hK hTd (fun W k b bn s i f' g x hb hN => ?_) (fun W v hb hv => (hR W v hb hv).mono (rowErr_of hbad)) (by decide)
          refine (hF2 W k b bn s i f' g x hb hN).mono ?_
          rintro e w' (⟨hall, _⟩ | ⟨_, rfl, hb⟩)
          · obtain ⟨cc, hcc, h0⟩ := hbad
            obtain ⟨y, hy⟩ := hall cc hcc
            rw [h0] at hy; cases hy
          · exact ⟨rfl, hb⟩
  · refine scanRows_bad f a n c o r kd q T w hn ho hr hnc hQ (hkept.mono ?_)
    rintro e w' (⟨hall, _⟩ | ⟨_, h⟩)
    · rw [hall K hK] at hbad; cases hbad
    · exact h

theorem scanRows_any {w : World} {v : Value} {n : Nat} {F : Nat → Nat} (f : Int) (h : FRow w v n F) (o r kd : Int) (ht : TzTab w) :
    Calls Tryz.prog 3 #[.int .i64 f, v, .int .i64 o, .int .i64 r, .int .i64 kd] w fun e w' => e = .returned (.bool true) ∧ Below w.heap.size w w' := by
  obtain ⟨⟨a, c, rfl, hnc⟩, hv, hF⟩ := h
  by_cases hin : n ≤ 200 ∧ 0 ≤ o ∧ 0 ≤ r ∧ o ≤ 200 ∧ r ≤ 200
  · obtain ⟨h1, h2, h3, h4, h5⟩ := hin
    obtain ⟨o', rfl⟩ := Int.eq_ofNat_of_zero_le h2
    obtain ⟨r', rfl⟩ := Int.eq_ofNat_of_zero_le h3
    exact scanRows_in f a n c o' r' kd F w h1 (by omega) (by omega) hnc hv hF ht
  · exact scanRows_far f a n c o r kd w (by omega)
end Go.Proofs.YtdddmehchfnppaaGreatDoor
