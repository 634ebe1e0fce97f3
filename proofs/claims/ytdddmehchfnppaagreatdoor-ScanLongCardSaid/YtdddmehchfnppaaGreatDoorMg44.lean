/- Merged texts. Parts of the statement ScanRows: the reference's Scan at a function that there is not. Conditions: as each theorem says. The walk of the reference's Scan of layer 14. Conditions: as each theorem says. A slice appended to a row that the call owns; rows of packed Vecs; the walk of flat.joined at packed truths. Conditions: as each theorem says. -/
import Derived.Test.YtdddmehchfnppaaGreatDoorMg43
import Derived.Test.YtdddmehchfnppaaGreatDoorMg26
import Derived.Test.YtdddmehchfnppaaGreatDoorMg29
import Derived.Test.YtdddmehchfnppaaGreatDoorMg41
import Derived.Test.YtdddmehchfnppaaGreatDoorMg13
namespace Go.Proofs.YtdddmehchfnppaaGreatDoor
open Go Go.RowKit Go.Proofs Fl

set_option maxRecDepth 100000 in
set_option maxHeartbeats 1000000 in
theorem rscan_unknown (q : Int) (hq : knownB q = false) (l : Value) (o n r : Int) (w : World) :
    Calls Tryz.prog 10 #[.int .i64 q, l, .int .i64 o, .int .i64 n, .int .i64 r] w (RowErr 1 w) := by
  have HK := Lib.hid (fun W => hq ▸ rknown_any q W)
  clear hq
  go_enter Tryz.func10, Tryz.ntmps10
  go_wp2_with fail
  refine (HK.out _).mono ?_
  rintro e w1 ⟨rfl, rfl⟩
  go_wp2
  go_ret2
  exact ⟨rfl, Below.refl _ _⟩

/-- one element to a row: it stays as it is -/
theorem scanR_one (g : Nat → Nat → Nat × Int) (F : Nat → Nat) (outer inner j : Nat) (h : j < outer * 1 * inner) : scanR g F 1 inner j = some (F j) := by
  obtain ⟨o, k, i, _, hk, hi, rfl⟩ := idx_surj h
  obtain rfl : i = 0 := by omega
  rw [scanR_at hk hi]
  show some (lineF F 1 inner o k 0) = _
  rfl
theorem scanR_tf (q : Int) (F : Nat → Nat) (outer n inner T : Nat) (hT : T = outer * n * inner) (hF : ∀ j, j < T → TF (F j)) (j y : Nat) (hj : j < T) (h : scanR (oneP pwP q) F n inner j = some y) : TF y := by
  have hj2 := hj
  rw [hT] at hj2
  obtain ⟨o, k, i, h1, h2, h3, rfl⟩ := idx_surj hj2
  rw [scanR_at h2 h3] at h
  refine stepsR_tf powIs (n := i + 1) (by omega) (fun i2 hi2 => hF _ ?_) (i + 1 - 1) (Nat.le_refl _) _ h
  rw [hT]
  exact idx_lt h1 h2 (by omega)
end Go.Proofs.YtdddmehchfnppaaGreatDoor
namespace Go.Proofs.YtdddmehchfnppaaGreatDoor
open Go Go.RowKit Go.Proofs Fl

theorem own1_head {w : World} {B n : Nat} {e : TypeId} {v : Value} {F : Nat → Value} (h : Own1 w B e v ((List.range n).map F)) (hn : 0 < n) : ∃ g c, v = .slice (some ⟨g, 0, none⟩) n c ∧ n ≤ c := by
  rcases h.2 with ⟨rfl, hn'⟩ | ⟨g, cap, cur, hv, hbg, hg, hnc, r⟩
  · simp at hn'; omega
  · rw [List.length_map, List.length_range] at hv hnc
    exact ⟨g, cap, hv, hnc⟩
theorem reads_prefix {w : World} {g n c m c' : Nat} {F : Nat → Value} (h : Reads1 w (.slice (some ⟨g, 0, none⟩) n c) ((List.range n).map F)) (hm : m ≤ n) : Reads1 w (.slice (some ⟨g, 0, none⟩) m c') ((List.range m).map F) := by
  obtain ⟨a, c1, e, hc⟩ := reads_at h
  injection e with e1 _ _
  refine .inr ⟨g, 0, m, c', rfl, by simp, fun i hi => ?_⟩
  have hi' : i < m := by simpa using hi
  obtain ⟨b, o, e2, h2⟩ := hc i (by omega)
  rw [e2] at e1
  injection e1 with e1
  injection e1 with e3 e4 _
  subst e3; subst e4
  rw [h2]
  simp

theorem own_setc {w : World} {B : Nat} {e : TypeId} {v : Value} {xs : List Value} (h : Own1 w B e v xs) {G : Nat} (hG : G < B) (j : Nat) (u : Value) : Own1 (w.setCell ⟨G, j, none⟩ u) B e v xs := by
  have hne : v.ownBlock ≠ some G := fun e => by
    have := World.ownsRow.lt h G e
    omega
  unfold Own1 at *
  exact ownsRow_setCell_other h hne u

set_option maxRecDepth 100000 in
set_option maxHeartbeats 4000000 in
theorem rscan_any {pw : Nat → Nat → Nat × Int} (hp : PowIs pw) (q : Int) (hq : knownB q = true) (l : Value) (T : Nat) (outer n inner : Nat) (F : Nat → Nat) (w : World)
    (hT : T = outer * n * inner) (hb1 : outer ≤ 1000) (hb2 : n ≤ 1000) (hb3 : inner ≤ 1000) (hbT : T ≤ 1000000)
    (hr : Reads1 w l ((List.range T).map fun j => .float .f64 (F j))) (hF : ∀ j, j < T → TF (F j)) :
    Calls Tryz.prog 10 #[.int .i64 q, l, .int .i64 (outer : Int), .int .i64 (n : Int), .int .i64 (inner : Int)] w (RfOut T (scanR (oneP pw q) F n inner) w) := by
  have HT := Lib.hid hT
  have HTF := Lib.hid hF
  have HP := Lib.hid hp
  have HLINE := Lib.hid (fun (o k : Nat) (W : World) (ho : o < outer) (hk : k < inner) (hb : Below w.heap.size w W) => line13_any l T outer n inner o k F W hT ho hk hb1 hb2 hb3 hbT (hr.below hb))
  have HROWC := Lib.hid (fun (o k i : Nat) (v : Value) (W : World) (ho : o < outer) (hk : k < inner) (hi : i < n) (hv : Reads1 W v ((List.range (i + 1)).map fun j => .float .f64 (lineF F n inner o k j))) =>
    row13_any hp q hq v (i + 1) (lineF F n inner o k) W (by omega) (by omega) hv (fun j hj => hF _ (by rw [hT]; exact idx_lt ho hk (by omega))))
  unfold RowOut at HROWC
  have HKN : Hid (∀ W, Calls Tryz.prog 20 #[.int .i64 q] W fun e w' => e = .returned (.bool true) ∧ W = w') := fun W => by rw [← hq]; exact rknown_any q W
  obtain ⟨a, c, rfl, _⟩ := reads_at hr
  have hmk := run_make_row' (P := Tryz.prog) 22 47 (.float .f64 0) 8 Tryz.underlying22 info_f64 rfl .i64 .i64 T (by omega) (by omega)
  have HR0 := Lib.hid (RowF.made w w.heap.size (Nat.le_refl _) T (by unfold maxLen; omega))
  have HB0 := Lib.hid (bel1 w (.cells (madeCells #[.float .f64 0] T) 47))
  obtain ⟨r, hrr⟩ : ∃ r, r = scanR (oneP pw q) F n inner := ⟨_, rfl⟩
  have HR := Lib.hid hrr
  rw [← hrr]
  clear hT hF hp hr hq hrr
  go_enter Tryz.func10, Tryz.ntmps10
  go_wp2_with fail
  refine (HKN.out _).mono ?_
  rintro e w1 ⟨rfl, rfl⟩
  go_wp2_with fail
  go_loopw [13] (fun oo wr => ∃ o : Nat, o ≤ outer ∧ oo = .int .i64 o ∧ (∃ F', RowF wr w.heap.size w.heap.size T F' ∧ DoneF r n inner o 0 0 F') ∧ Below w.heap.size w wr) (fun oo _ => outer - (intOf oo).toNat)
  case atStart => exact ⟨0, Nat.zero_le _, rfl, ⟨_, HR0.out, DoneF.zero _ _ _ _⟩, HB0.out⟩
  case round =>
    clear hmk HR0 HB0
    obtain ⟨o, ho, rfl, ⟨F', hrow, hdone⟩, hbl⟩ := hrel
    have HROW := Lib.hid hrow
    have HD := Lib.hid hdone
    have HBL := Lib.hid hbl
    clear hrow hdone hbl
    by_cases hlt : o < outer
    · go_wp2_with fail
      go_loopw [14] (fun oo wr => ∃ k : Nat, k ≤ inner ∧ oo = .int .i64 k ∧ (∃ F', RowF wr w.heap.size w.heap.size T F' ∧ DoneF r n inner o k 0 F') ∧ Below w.heap.size w wr) (fun oo _ => inner - (intOf oo).toNat)
      case atStart => exact ⟨0, Nat.zero_le _, rfl, ⟨_, HROW.out, HD.out⟩, HBL.out⟩
      case round =>
        clear HROW HD HBL
        obtain ⟨k, hk, rfl, ⟨F', hrow, hdone⟩, hbl⟩ := hrel
        have HROW := Lib.hid hrow
        have HD := Lib.hid hdone
        have HBL := Lib.hid hbl
        clear hrow hdone hbl
        by_cases hltk : k < inner
        · go_wp2_with fail
          refine (HLINE.out o k _ hlt hltk HBL.out).mono ?_
          rintro e w2 ⟨v2, rfl, hv, hb⟩
          have HV2 := Lib.hid hv
          have HBL2 := Lib.hid (bel_both HBL.out hb)
          have HROW2 := Lib.hid (HROW.out.below hb)
          have HV2' := Lib.hid (HV2.out.lower (show w.heap.size + 1 ≤ _ from HROW.out.low.2))
          clear hv hb HBL HROW HV2
          go_wp2_with fail
          go_loopw [16] (fun oo wr => ∃ i : Nat, i ≤ n ∧ oo = .int .i64 i ∧ (∃ F', RowF wr w.heap.size w.heap.size T F' ∧ DoneF r n inner o k i F') ∧ Below w.heap.size w wr ∧ Own1 wr (w.heap.size + 1) 47 v2 ((List.range n).map fun j => .float .f64 (lineF F n inner o k j))) (fun oo _ => n - (intOf oo).toNat)
          case atStart => exact ⟨0, Nat.zero_le _, rfl, ⟨_, HROW2.out, HD.out⟩, HBL2.out, HV2'.out⟩
          case round =>
            clear HROW2 HD HBL2 HV2'
            obtain ⟨i, hi, rfl, ⟨F', hrow, hdone⟩, hbl, hv⟩ := hrel
            have HROW := Lib.hid hrow
            have HD := Lib.hid hdone
            have HBL := Lib.hid hbl
            have HV := Lib.hid hv
            clear hrow hdone hbl
            by_cases hlti : i < n
            · obtain ⟨g2, c2, rfl, hcap⟩ := own1_head hv (by omega)
              clear hv
              have HPRE := Lib.hid (reads_prefix (m := i + 1) (c' := c2) HV.out.reads (by omega))
              obtain ⟨P1, eP1⟩ : ∃ P1, P1 = o * n := ⟨_, rfl⟩
              obtain ⟨P2, eP2⟩ : ∃ P2, P2 = P1 + i := ⟨_, rfl⟩
              obtain ⟨P3, eP3⟩ : ∃ P3, P3 = P2 * inner := ⟨_, rfl⟩
              obtain ⟨I, eI⟩ : ∃ I, I = P3 + k := ⟨_, rfl⟩
              have eI' : I = o * n * inner + k + i * inner := by rw [eI, eP3, eP2, eP1]; exact idx_eq o n i inner k
              have hI : I < T := by rw [eI', HT.out]; exact idx_lt hlt hltk hlti
              have f1 : (o : Int) * (n : Int) = (P1 : Int) := by rw [eP1]; push_cast; rfl
              have f2 : (P1 : Int) + (i : Int) = (P2 : Int) := by rw [eP2]; push_cast; rfl
              have f3 : (P2 : Int) * (inner : Int) = (P3 : Int) := by rw [eP3]; push_cast; rfl
              have f4 : (P3 : Int) + (k : Int) = (I : Int) := by rw [eI]; push_cast; rfl
              have hP1 : P1 ≤ 1000000 := by
                rw [eP1]; exact Nat.le_trans (Nat.mul_le_mul (Nat.le_of_lt (Nat.lt_of_lt_of_le hlt hb1)) hb2) (by decide)
              have hP2 : P2 ≤ 1001000 := by omega
              have hP3 : P3 ≤ 1000000 := by omega
              have HEI := Lib.hid eI'
              have hup := HROWC.out o k i (.slice (some ⟨g2, 0, none⟩) (i + 1) c2) wr hlt hltk hlti HPRE.out
              rw [← scanR_at hltk hlti, ← eI', ← HR.out] at hup
              have HUPI := Lib.hid hup
              clear eP1 eP2 eP3 eI eI' hup
              go_wp2_with fail
              refine HUPI.out.mono ?_
              rintro e w4 ⟨rfl, hb4⟩
              have HBL4 := Lib.hid (bel_both HBL.out hb4)
              have HROW4 := Lib.hid (HROW.out.below hb4)
              have HV4 := Lib.hid (HV.out.below hb4)
              clear hb4 HBL HROW HUPI HPRE HV
              cases hr : r I with
              | none =>
                have HBAD : Hid (∃ c, c < T ∧ r c = none) := ⟨_, hI, hr⟩
                clear hr
                go_wp2
                go_ret2
                exact .inr ⟨HBAD.out, rfl, HBL4.out⟩
              | some y =>
                have HRI := Lib.hid hr
                clear hr
                have hco := HROW4.out.cell hI
                have hfo := HROW4.out.frozen I
                have hstore := fun m => store_float hco hfo .f64 y m
                have HROW5 := Lib.hid (HROW4.out.put hI y)
                have HD5 := Lib.hid (HD.out.put HEI.out HRI.out)
                have HBL5 := Lib.hid (HBL4.out.setCell (p := ⟨w.heap.size, I, none⟩) (Nat.le_refl _) (.float .f64 y))
                have HV5 := Lib.hid (own_setc HV4.out (show w.heap.size < w.heap.size + 1 from Nat.lt_succ_self _) I (.float .f64 y))
                go_wp2
                go_roundw
                case rel => exact ⟨i + 1, by omega, by go_num, ⟨_, HROW5.out, HD5.out⟩, HBL5.out, HV5.out⟩
                case measure => simp [intOf]; omega
            · obtain rfl : i = n := by omega
              go_wp2
              go_roundw
              case rel => exact ⟨k + 1, by omega, by go_num, ⟨_, HROW.out, HD.out.nextK⟩, HBL.out⟩
              case measure => simp [intOf]; omega
        · obtain rfl : k = inner := by omega
          go_wp2
          go_roundw
          case rel => exact ⟨o + 1, by omega, by go_num, ⟨_, HROW.out, HD.out.nextO⟩, HBL.out⟩
          case measure => simp [intOf]; omega
    · obtain rfl : o = outer := by omega
      have HALL : Hid (∀ j, j < T → r j = some (F' j)) := by rw [HT.out]; exact HD.out.all
      have HALLN : Hid (∀ c, c < T → ∃ y, r c = some y) := fun c hc => ⟨_, HALL.out c hc⟩
      have HOWNN : Hid (Own1 wr w.heap.size 47 (.slice (some ⟨w.heap.size, 0, none⟩) T T) ((List.range T).map fun j => .float .f64 (getR r j))) := by
        have h := HROW.out
        unfold RowF at h
        have e : ((List.range T).map fun j => Value.float .f64 (F' j)) = (List.range T).map fun j => .float .f64 (getR r j) := by
          apply List.map_congr_left
          intro j hj
          unfold getR
          rw [HALL.out j (List.mem_range.1 hj)]; rfl
        rw [e] at h
        exact h
      go_wp2
      go_ret2
      exact .inl ⟨HALLN.out, ⟨_, rfl, HOWNN.out⟩, HBL.out⟩
end Go.Proofs.YtdddmehchfnppaaGreatDoor
namespace Go.Proofs.YtdddmehchfnppaaGreatDoor
open Go Go.RowKit Go.Proofs Fl

/-- a slice of one-cell elements appended to a row that the call owns -/
theorem wpList_pushL {ops : Array Oper} {rest : List Oper} {o : Oper} {a : Act} {Q : Exit → Act → World → Prop} {w : World} (hgd : o.guard = none) (s x : Operand) (t e : TypeId)
    (ho : o.op = .call { callee := .builtin .append, args := #[s, x], argTypes := #[t, t] }) (ht : Tryz.prog.underlying t = some (.slice e)) (z : Value) (bytes : Nat)
    (hinfo : (Tryz.prog.info? e).map (fun i => (i.zero, i.size, i.bytes)) = some (some z, 1, bytes)) (hz : z.cells.size = 1)
    (B : Nat) (v : Value) (xs : List Value) (hs : a.eval s = v) (hown : Own1 w B e v xs) (b f m c : Nat) (ys : List Value) (hm : ys.length = m) (hx : a.eval x = .slice (some ⟨b, f, none⟩) m c)
    (hc : ∀ i (h : i < ys.length), w.cell? ⟨b, f + i, none⟩ = some ys[i]) (h1 : ∀ u ∈ ys, u.oneCell' = true) (hl : (xs.length + m) * bytes ≤ 140737488355328) (hl2 : xs.length + m ≤ 140737488355328) (hB : B ≤ w.heap.size)
    (h : ∀ v' w', Own1 w' B e v' (xs ++ ys) → (∀ w0, Below B w0 w → Below B w0 w') → (∀ g, g < B → w'.heap[g]? = w.heap[g]?) → w.heap.size ≤ w'.heap.size →
      wpList Tryz.prog ops Q rest (a.put o.dst v') w') : wpList Tryz.prog ops Q (o :: rest) a w := by
  obtain ⟨i0, hi0, hz0, hz1, hz2⟩ := info_parts hinfo
  refine wpList_append_own_at _ hgd s x t ho B e i0 z 1 bytes ht hi0 hz0 hz1 hz2 hz (by omega) v xs.length _ hs
    hown ⟨b, f, none⟩ m c ys hx (by rw [hm, Nat.mul_one]) ?_ h1 (by unfold maxLen; omega) hl hB ?_
  · intro j u hj
    obtain ⟨hlt, rfl⟩ := List.getElem?_eq_some_iff.1 hj
    rw [← hc j hlt]
    unfold Addr.add; split
    · rename_i h0; subst h0; rfl
    · rfl
  intro v' w' hown' hg _ _
  have hlow := World.ownsRow.lt hown
  refine h v' w' ?_ ?_ ?_ hg.size
  · unfold Own1
    rw [List.length_append, hm]
    exact hown'
  · intro w0 hb
    exact hb.grown hg hB fun k hk => (hlow k hk).1
  · intro g hgB
    refine hg.block g (Nat.lt_of_lt_of_le hgB hB) fun e => ?_
    have := (hlow g e.symm).1
    omega

theorem own_open {w : World} {B : Nat} {e : TypeId} {v : Value} {n : Nat} {F : Nat → Value} (h : Own1 w B e v ((List.range n).map F)) (hn : 1 ≤ n) :
    ∃ g c, v = .slice (some ⟨g, 0, none⟩) n c ∧ n ≤ c ∧ ∀ i, i < n → w.cell? ⟨g, i, none⟩ = some (F i) := by
  have h0 := h
  unfold Own1 at h
  rw [List.length_map, List.length_range] at h
  rcases h.2 with ⟨_, e⟩ | ⟨g, cap, cur, hv, hbg, hg, hnc, _⟩
  · omega
  · subst hv
    exact ⟨g, cap, rfl, hnc, fun i hi => own_cell h0 i hi⟩

/-- a row of m Vecs of n packed truths at block g -/
def VBits (w : World) (g m n : Nat) (L : Nat → Nat → Bool) (S : Nat → Sl) : Prop :=
  ∀ j, j < m → w.cell? ⟨g, j * 8, none⟩ = some (.int .i64 1) ∧ w.cell? ⟨g, j * 8 + 1, none⟩ = some (.slice (S j).1 (S j).2.1 (S j).2.2) ∧ w.cell? ⟨g, j * 8 + 2, none⟩ = some (.int .i64 (n : Int)) ∧
    w.cell? ⟨g, j * 8 + 3, none⟩ = some vnil ∧ w.cell? ⟨g, j * 8 + 4, none⟩ = some vnil ∧ w.cell? ⟨g, j * 8 + 5, none⟩ = some vnil ∧ w.cell? ⟨g, j * 8 + 6, none⟩ = some vnil ∧ w.cell? ⟨g, j * 8 + 7, none⟩ = some vnil ∧
    BitsIn w (.agg #[.slice (S j).1 (S j).2.1 (S j).2.2, .int .i64 (n : Int)]) n (L j)
theorem VBits.below {w w' : World} {g m n : Nat} {L : Nat → Nat → Bool} {S : Nat → Sl} (h : VBits w g m n L S) (hb : Below w.heap.size w w') : VBits w' g m n L S := fun j hj => by
  obtain ⟨c0, c1, c2, c3, c4, c5, c6, c7, hbi⟩ := h j hj
  exact ⟨by rw [hb.cell (cell_lt c0)]; exact c0, by rw [hb.cell (cell_lt c1)]; exact c1, by rw [hb.cell (cell_lt c2)]; exact c2, by rw [hb.cell (cell_lt c3)]; exact c3, by rw [hb.cell (cell_lt c4)]; exact c4,
    by rw [hb.cell (cell_lt c5)]; exact c5, by rw [hb.cell (cell_lt c6)]; exact c6, by rw [hb.cell (cell_lt c7)]; exact c7, hbi.below hb⟩

/-- truths of rows behind each other -/
def rowsB (L : Nat → Nat → Bool) (n : Nat) : Nat → Bool := fun i => L (i / n) (i % n)
theorem rowsB_at (L : Nat → Nat → Bool) (n j i : Nat) (hi : i < n) : rowsB L n (j * n + i) = L j i := by
  unfold rowsB
  rw [Nat.mul_comm, Nat.mul_add_div (by omega), Nat.div_eq_of_lt hi, Nat.mul_add_mod, Nat.mod_eq_of_lt hi]; rfl
theorem rows_snoc (L : Nat → Nat → Bool) (j n : Nat) : ((List.range (j * n)).map fun i => Value.bool (rowsB L n i)) ++ ((List.range n).map fun i => .bool (L j i)) = (List.range ((j + 1) * n)).map fun i => .bool (rowsB L n i) := by
  rw [Nat.add_mul, Nat.one_mul, List.range_add, List.map_append, List.map_map]
  congr 1
  apply List.map_congr_left
  intro i hi
  show _ = Value.bool (rowsB L n (j * n + i))
  rw [rowsB_at L n j i (List.mem_range.1 hi)]

set_option maxRecDepth 100000 in
set_option maxHeartbeats 1000000 in
theorem joined_bits (g m c n T : Nat) (hT : T = m * n) (L : Nat → Nat → Bool) (S : Nat → Sl) (w : World) (hm1 : 1 ≤ m) (hn1 : 1 ≤ n) (hm : m ≤ 1000) (hn : n ≤ 1000) (hr : VBits w g m n L S) :
    Calls Tryz.prog 114 #[.slice (some ⟨g, 0, none⟩) m c, .int .i64 0, .int .i64 1] w fun e w' => ∃ g' M, M = (T + 63) / 64 ∧ e = .returned (vecV 1 (.slice (some ⟨g', 0, none⟩) M M) (T : Int) vnil vnil vnil vnil vnil) ∧ RowU w' w.heap.size g' M (packW (rowsB L n) T) ∧ Below w.heap.size w w' := by
  have HR := Lib.hid hr
  have HT := Lib.hid hT
  clear hr hT
  have HK0 := Lib.hid (heap_alloc_new w (.cells zcells 32))
  have HB0 := Lib.hid (bel1 w (.cells zcells 32))
  have HO0 : Hid (Own1 (w.alloc (.cells zcells 32)) (w.heap.size + 1) 4 vnil ((List.range (0 * n)).map fun i => .bool (rowsB L n i))) := by
    rw [Nat.zero_mul]; exact Own1.nil _ _ _
  go_enter Tryz.func114, Tryz.ntmps114
  go_wp2_with fail
  go_loopw [9, 24] (fun vv jj wr => ∃ j : Nat, j ≤ m ∧ jj = .int .i64 j ∧ Own1 wr (w.heap.size + 1) 4 vv ((List.range (j * n)).map fun i => .bool (rowsB L n i)) ∧ Below w.heap.size w wr ∧ wr.heap[w.heap.size]? = some (.cells zcells 32)) (fun _ jj _ => m - (intOf jj).toNat)
  case atStart => exact ⟨0, Nat.zero_le _, rfl, HO0.out, HB0.out, HK0.out⟩
  case round =>
    clear HO0 HB0 HK0
    obtain ⟨j, hj, rfl, hown, hbl, hk⟩ := hrel
    have HOWN := Lib.hid hown
    have HBL := Lib.hid hbl
    have HK := Lib.hid hk
    clear hown hbl hk
    by_cases hlt : j < m
    · obtain ⟨c0, c1, c2, c3, c4, c5, c6, c7, hbi⟩ := HR.out.below HBL.out j hlt
      have HBI := Lib.hid hbi
      clear hbi
      have HBW := Lib.hid (lt_of_block HK.out)
      go_wp2_with fail
      refine (packed_yes (S j) (n : Int) _ _ _ _ _ _).mono ?_
      rintro e w2 ⟨rfl, hb2⟩
      have HB2 := Lib.hid (bel_both (bel1 wr _) hb2)
      clear hb2 c0 c1 c2 c3 c4 c5 c6 c7
      have HBI2 := Lib.hid (HBI.out.below (bel_both HB2.out (bel1 w2 (.cells #[.slice (S j).1 (S j).2.1 (S j).2.2, .int .i64 (n : Int)] 26))))
      go_wp2_with fail
      refine (unpack_any _ n (L j) _ (by omega) HBI2.out).mono ?_
      rintro e w3 ⟨g3, rfl, hrow, hb3⟩
      have HB3 := Lib.hid (bel_both HB2.out (bel_both (bel1 w2 _) hb3))
      have HROW := Lib.hid hrow
      have HOWN3 := Lib.hid (HOWN.out.below HB3.out)
      have HOS : Hid (((List.range (j * n)).map fun i => Value.bool (rowsB L n i)) ++ ((List.range n).map fun i => .bool (L j i)) = (List.range ((j + 1) * n)).map fun i => .bool (rowsB L n i)) := rows_snoc L j n
      have HLL : Hid ((j * n + n) * 1 ≤ 140737488355328) := by
        have : j * n ≤ 1000 * 1000 := Nat.mul_le_mul (by omega) hn
        show (j * n + n) * 1 ≤ _
        omega
      clear hb3 hrow HBI2 HB2 HBI
      go_wp2_with (first | (at_builtin; refine wpList_pushL rfl _ _ 59 4 rfl Tryz.underlying59 (.bool false) 1 info_bool rfl (w.heap.size + 1) _ _ rfl HOWN3.out g3 0 n n ((List.range n).map fun i => .bool (L j i)) (by simp) rfl (fun i hi => by rw [Nat.zero_add]; have h := HROW.out.cell (k := i) (by simpa using hi); rw [h]; simp) (by intro u hu; obtain ⟨i, _, rfl⟩ := List.mem_map.1 hu; rfl) (by rw [List.length_map, List.length_range]; exact HLL.out) (by rw [List.length_map, List.length_range]; have := HLL.out; omega) (Nat.le_trans HBW.out HB3.out.size) ?_; intro v' w4 hv' hb' hg' hs'; rw [HOS.out] at hv'; have HV := Lib.hid hv'; have HB4 := Lib.hid (hb' w3 (Below.refl _ _)); have HG4 := Lib.hid (hg' w.heap.size (Nat.lt_succ_self _)); clear hb' hv' hg' hs'))
      have HBL4 := Lib.hid (bel_both' (bel_both HBL.out HB3.out) (HB4.out.mono (by omega)))
      have HK4 := Lib.hid (HG4.out.trans ((HB3.out.block _ HBW.out).trans HK.out))
      go_wp2
      go_roundw
      case rel => exact ⟨j + 1, by omega, by go_num, HV.out, HBL4.out, HK4.out⟩
      case measure => simp [intOf]; omega
    · obtain rfl : j = m := by omega
      have hmn : 1 ≤ j * n := Nat.mul_le_mul hm1 hn1
      have hmx : j * n ≤ 1000 * 1000 := Nat.mul_le_mul hm hn
      rw [← HT.out] at HOWN hmn hmx
      obtain ⟨gb, cap, hu, hcap, hcell⟩ := own_open HOWN.out hmn
      subst hu
      have HP := Lib.hid (pack_any gb 0 T cap (rowsB L n) (by omega) hcap wr (fun i hi => by rw [Nat.zero_add]; exact hcell i hi))
      obtain ⟨M, hM⟩ : ∃ M, M = (T + 63) / 64 := ⟨_, rfl⟩
      rw [← hM] at HP
      have HM := Lib.hid hM
      clear hcell hM
      go_wp2_with fail
      refine HP.out.mono ?_
      rintro e w2 ⟨g2, rfl, hr2, hb2⟩
      have HB2 := Lib.hid hb2
      have HR2 := Lib.hid hr2
      clear hb2 hr2 HP
      go_wp2_with fail
      refine (vbits_any _ _ _ _ _).mono ?_
      rintro e w3 ⟨rfl, hb3⟩
      have HB3 := Lib.hid (bel_both HBL.out (bel_both HB2.out hb3))
      have HR3 := Lib.hid ((HR2.out.below hb3).lower (show w.heap.size ≤ wr.heap.size from HBL.out.size))
      have hg2 := HR2.out.low.1
      have hkw := lt_of_block HK.out
      have HK3 := Lib.hid (show w3.heap[w.heap.size]? = some (.cells zcells 32) by rw [(bel_both HB2.out hb3).block _ hkw]; exact HK.out)
      clear hb3
      obtain ⟨⟨h0, h1, h2, h3, h4, h5, h6, h7⟩, hz⟩ := boxed_of HK3.out
      go_wp2
      refine bodyPost_ret (ret_vec rfl _ _ _ rfl (set8_block HK3.out _ _ _ _ _ _ _ _)) rfl ⟨g2, M, HM.out, rfl, ?_, below_set8 HB3.out (Nat.le_refl _) _ _ _ _ _ _ _ _⟩
      exact own_set8 HR3.out (by show some g2 ≠ _; intro e; injection e; omega) _ _ _ _ _ _ _ _
end Go.Proofs.YtdddmehchfnppaaGreatDoor
