/- Merged texts. The plain law of what the elements come to up to each place, and the walk of scan.floats. Conditions: as each theorem says. The walk of scan.first. Conditions: as each theorem says. The plain law of parities up to each place, and the walk of bitvec.Parity. Conditions: as each theorem says. The walk of bitvec.Parity. Conditions: as each theorem says. -/
import Derived.Test.YtdddmehchfnppaaGreatDoorMg28
import Derived.Test.YtdddmehchfnppaaGreatDoorMg26
import Derived.Test.YtdddmehchfnppaaGreatDoorMg17
namespace Go.Proofs.YtdddmehchfnppaaGreatDoor
open Go Go.RowKit Go.Proofs Fl

/-- what the elements come to up to place j -/
def scanR (g : Nat → Nat → Nat × Int) (F : Nat → Nat) (n inner j : Nat) : Option Nat :=
  rowR g (lineF F n inner (j / (n * inner)) (j % (n * inner) % inner)) (j % (n * inner) / inner + 1)
theorem scanR_at {g : Nat → Nat → Nat × Int} {F : Nat → Nat} {n inner o k i : Nat} (hk : k < inner) (hi : i < n) : scanR g F n inner (o * n * inner + k + i * inner) = rowR g (lineF F n inner o k) (i + 1) := by
  have hlt : k + i * inner < n * inner := by
    have h1 : (i + 1) * inner ≤ n * inner := Nat.mul_le_mul_right _ hi
    rw [Nat.add_mul] at h1
    omega
  have e : o * n * inner + k + i * inner = n * inner * o + (k + i * inner) := by
    have : o * n * inner = n * inner * o := by rw [Nat.mul_assoc, Nat.mul_comm]
    omega
  have e1 : (o * n * inner + k + i * inner) / (n * inner) = o := by
    rw [e, Nat.mul_add_div (by omega), Nat.div_eq_of_lt hlt]; omega
  have e2 : (o * n * inner + k + i * inner) % (n * inner) = k + i * inner := by
    rw [e, Nat.mul_add_mod, Nat.mod_eq_of_lt hlt]
  have e3 : (k + i * inner) % inner = k := by
    rw [Nat.add_mul_mod_self_right, Nat.mod_eq_of_lt hk]
  have e4 : (k + i * inner) / inner = i := by
    rw [Nat.add_mul_div_right _ _ (by omega), Nat.div_eq_of_lt hk]; omega
  unfold scanR
  rw [e1, e2, e3, e4]

/-- a row of T numbers that the call made, at block g -/
def RowF (w : World) (B g T : Nat) (F : Nat → Nat) : Prop := Own1 w B 47 (.slice (some ⟨g, 0, none⟩) T T) ((List.range T).map fun j => .float .f64 (F j))
theorem RowF.ow {w : World} {B g T : Nat} {F : Nat → Nat} (h : RowF w B g T F) : w.ownsRow B 47 1 (.slice (some ⟨g, 0, none⟩) T T) T ((List.range T).map fun j => .float .f64 (F j)) := by
  have := h
  unfold RowF Own1 at this
  rw [List.length_map, List.length_range] at this
  exact this
theorem RowF.of_ow {w : World} {B g T : Nat} {F : Nat → Nat} (h : w.ownsRow B 47 1 (.slice (some ⟨g, 0, none⟩) T T) T ((List.range T).map fun j => .float .f64 (F j))) : RowF w B g T F := by
  unfold RowF Own1
  rw [List.length_map, List.length_range]
  exact h
theorem RowF.put {w : World} {B g T : Nat} {F : Nat → Nat} (h : RowF w B g T F) {k : Nat} (hk : k < T) (z : Nat) : RowF (w.setCell ⟨g, k, none⟩ (.float .f64 z)) B g T (fun j => if j = k then z else F j) := by
  have h2 := (World.ownsRow.stored h.ow k (.float .f64 z)).1
  rw [set_map_range hk] at h2
  refine RowF.of_ow ?_
  have e : ((List.range T).map fun j => Value.float .f64 (if j = k then z else F j)) = (List.range T).map fun j => if j = k then .float .f64 z else .float .f64 (F j) := by
    apply List.map_congr_left
    intro j _
    split <;> rfl
  rw [e]
  exact h2
theorem RowF.cell {w : World} {B g T : Nat} {F : Nat → Nat} (h : RowF w B g T F) {k : Nat} (hk : k < T) : w.cell? ⟨g, k, none⟩ = some (.float .f64 (F k)) := by
  have := World.ownsRow.cellAt h.ow k (by omega)
  rw [this]
  simp [hk]
theorem RowF.frozen {w : World} {B g T : Nat} {F : Nat → Nat} (h : RowF w B g T F) (k : Nat) : w.frozen? ⟨g, k, none⟩ = false := World.ownsRow.frozenAt h.ow k
theorem RowF.low {w : World} {B g T : Nat} {F : Nat → Nat} (h : RowF w B g T F) : B ≤ g ∧ g < w.heap.size := World.ownsRow.lt h.ow g rfl
theorem RowF.made (w : World) (B : Nat) (hB : B ≤ w.heap.size) (T : Nat) (hT : T ≤ maxLen) : RowF (w.alloc (.cells (madeCells #[.float .f64 0] T) 47)) B w.heap.size T (fun _ => 0) := by
  have h := World.ownsRow_lit (base := B) (e := 47) (size := 1) w (madeCells #[.float .f64 0] T) T hB hT (by rw [size_madeCells]; omega)
  rw [toList_madeCells_one] at h
  refine RowF.of_ow ?_
  have e : ((List.range T).map fun _ : Nat => Value.float .f64 0) = List.replicate T (.float .f64 0) := by
    rw [List.map_const', List.length_range]
  rw [e]
  exact h
theorem RowF.below {w w' : World} {B g T : Nat} {F : Nat → Nat} (h : RowF w B g T F) (hb : Below w.heap.size w w') : RowF w' B g T F := Own1.below h hb

/-- the places ahead of (o, k, i) hold what they are to hold -/
def DoneF (r : Nat → Option Nat) (n inner o k i : Nat) (F : Nat → Nat) : Prop :=
  ∀ o' k' i', k' < inner → i' < n → (o' < o ∨ (o' = o ∧ (k' < k ∨ (k' = k ∧ i' < i)))) → r (o' * n * inner + k' + i' * inner) = some (F (o' * n * inner + k' + i' * inner))
theorem DoneF.zero (r : Nat → Option Nat) (n inner : Nat) (F : Nat → Nat) : DoneF r n inner 0 0 0 F := fun o' k' i' _ _ h => by omega
theorem DoneF.nextK {r : Nat → Option Nat} {n inner o k : Nat} {F : Nat → Nat} (h : DoneF r n inner o k n F) : DoneF r n inner o (k + 1) 0 F := fun o' k' i' h1 h2 h3 => h o' k' i' h1 h2 (by omega)
theorem DoneF.nextO {r : Nat → Option Nat} {n inner o : Nat} {F : Nat → Nat} (h : DoneF r n inner o inner 0 F) : DoneF r n inner (o + 1) 0 0 F := fun o' k' i' h1 h2 h3 => h o' k' i' h1 h2 (by omega)
theorem DoneF.put {r : Nat → Option Nat} {n inner o k i I y : Nat} {F : Nat → Nat} (h : DoneF r n inner o k i F) (hI : I = o * n * inner + k + i * inner) (hr : r I = some y) : DoneF r n inner o k (i + 1) (fun j => if j = I then y else F j) := by
  intro o' k' i' h1 h2 h3
  show _ = some (if o' * n * inner + k' + i' * inner = I then y else F (o' * n * inner + k' + i' * inner))
  by_cases e : o' * n * inner + k' + i' * inner = I
  · rw [if_pos e, e]; exact hr
  · rw [if_neg e]
    refine h o' k' i' h1 h2 ?_
    by_cases e2 : o' = o ∧ k' = k ∧ i' = i
    · obtain ⟨rfl, rfl, rfl⟩ := e2
      exact absurd hI.symm e
    · omega
theorem DoneF.all {r : Nat → Option Nat} {outer n inner : Nat} {F : Nat → Nat} (h : DoneF r n inner outer 0 0 F) : ∀ j, j < outer * n * inner → r j = some (F j) := by
  intro j hj
  obtain ⟨o, k, i, h1, h2, h3, rfl⟩ := idx_surj hj
  exact h o k i h2 h3 (.inl h1)

/-- what a function that puts rows together up to each place tells -/
def SlOut (H : Nat → Prop) (w : World) (r : Nat → Option Nat) (T : Nat) (e : Ending) (w' : World) : Prop :=
  ((∀ c, c < T → ∃ y, r c = some y) ∧ VecOk H w (fun u W => NumV u (leastF (getR r) T : Nat) T (getR r) W) e w') ∨
  ((∃ c, c < T ∧ r c = none) ∧ e = .returned (.tuple #[vecV 0 vnil 0 vnil vnil vnil vnil vnil, .int .i64 24]) ∧ Below w.heap.size w w')

set_option maxRecDepth 100000 in
set_option maxHeartbeats 4000000 in
theorem sfloats_any {pw : Nat → Nat → Nat × Int} (hp : PowIs pw) (H : Nat → Prop) (q : Int) (hq : knownB q = true) (kk : Int) (b : Value) (bn : Int) (s i f c x : Value) (T : Nat) (outer n inner : Nat) (F : Nat → Nat) (w : World) (hH : ∀ b, H b → b < w.heap.size)
    (hT : T = outer * n * inner) (hb1 : outer ≤ 1000) (hb2 : n ≤ 1000) (hb3 : inner ≤ 1000) (hbT : T ≤ 1000000)
    (hN : ∀ W, Below w.heap.size w W → NumV (vecV kk b bn s i f c x) kk T F W) :
    Calls Tryz.prog 36 #[.int .i64 q, vecV kk b bn s i f c x, .int .i64 (outer : Int), .int .i64 (n : Int), .int .i64 (inner : Int)] w (SlOut H w (scanR (oneP pw q) F n inner) T) := by
  have HT := Lib.hid hT
  have HNV := Lib.hid hN
  have HTF := Lib.hid ((hN w (Below.refl _ _)).tf)
  have HP := Lib.hid hp
  have HH := Lib.hid hH
  have HUP := Lib.hid (fun (o k i' : Nat) (W : World) (ho : o < outer) (hk : k < inner) (hi : i' < n) (hA : o * n * inner + k ≤ 1000000) (hb : Below w.heap.size w W) =>
    upto_any hp q hq kk b bn s i f c x T (o * n * inner + k) i' inner (lineF F n inner o k) F W (by omega) hA hbT (fun j hj => by rw [hT]; exact idx_lt ho hk (by omega)) (fun j _ => rfl) (fun W' hb' => hN W' (bel_both hb hb')))
  unfold RowOut at HUP
  have HSM := Lib.hid (St.new w kk b bn s i f c x)
  have HLEN := Lib.hid (hN _ HSM.out.bel).len
  have hmk := run_make_row' (P := Tryz.prog) 22 47 (.float .f64 0) 8 Tryz.underlying22 info_f64 rfl .i64 .i64 T (by omega) (by omega)
  obtain ⟨r, hr⟩ : ∃ r, r = scanR (oneP pw q) F n inner := ⟨_, rfl⟩
  have HR := Lib.hid hr
  rw [← hr]
  clear hT hN hp hH hq hr
  go_enter Tryz.func36, Tryz.ntmps36
  obtain ⟨h0, h1, h2, h3, h4, h5, h6, h7⟩ := HSM.out.box
  go_wp2_with fail
  refine HLEN.out.mono ?_
  rintro e w2 ⟨rfl, hb2'⟩
  have HS2 := Lib.hid (HSM.out.step hb2')
  have HR0 := Lib.hid (RowF.made w2 (w.heap.size + 2) HS2.out.sz T (by unfold maxLen; omega))
  have HS3 := Lib.hid (HS2.out.al (.cells (madeCells #[.float .f64 0] T) 47))
  clear hb2' h0 h1 h2 h3 h4 h5 h6 h7 HSM HLEN HS2
  obtain ⟨G, hG⟩ : ∃ G, G = w2.heap.size := ⟨_, rfl⟩
  rw [← hG] at HR0
  go_wp2_with fail
  rw [← hG]
  clear hG
  go_loopw [25] (fun oo wr => ∃ o : Nat, o ≤ outer ∧ oo = .int .i64 o ∧ (∃ F', RowF wr (w.heap.size + 2) G T F' ∧ DoneF r n inner o 0 0 F') ∧ St w wr kk b bn s i f c x) (fun oo _ => outer - (intOf oo).toNat)
  case atStart => exact ⟨0, Nat.zero_le _, rfl, ⟨_, HR0.out, DoneF.zero _ _ _ _⟩, HS3.out⟩
  case round =>
    clear hmk HR0 HS3
    obtain ⟨o, ho, rfl, ⟨F', hrow, hdone⟩, hst⟩ := hrel
    have HROW := Lib.hid hrow
    have HD := Lib.hid hdone
    have HST := Lib.hid hst
    clear hrow hdone hst
    by_cases hlt : o < outer
    · go_wp2_with fail
      go_loopw [29] (fun oo wr => ∃ k : Nat, k ≤ inner ∧ oo = .int .i64 k ∧ (∃ F', RowF wr (w.heap.size + 2) G T F' ∧ DoneF r n inner o k 0 F') ∧ St w wr kk b bn s i f c x) (fun oo _ => inner - (intOf oo).toNat)
      case atStart => exact ⟨0, Nat.zero_le _, rfl, ⟨_, HROW.out, HD.out⟩, HST.out⟩
      case round =>
        clear HROW HD HST
        obtain ⟨k, hk, rfl, ⟨F', hrow, hdone⟩, hst⟩ := hrel
        have HROW := Lib.hid hrow
        have HD := Lib.hid hdone
        have HST := Lib.hid hst
        clear hrow hdone hst
        by_cases hltk : k < inner
        · obtain ⟨P1, eP1⟩ : ∃ P1, P1 = o * n := ⟨_, rfl⟩
          obtain ⟨P2, eP2⟩ : ∃ P2, P2 = P1 * inner := ⟨_, rfl⟩
          obtain ⟨A, eA⟩ : ∃ A, A = P2 + k := ⟨_, rfl⟩
          have f1 : (o : Int) * (n : Int) = (P1 : Int) := by rw [eP1]; push_cast; rfl
          have f2 : (P1 : Int) * (inner : Int) = (P2 : Int) := by rw [eP2]; push_cast; rfl
          have f3 : (P2 : Int) + (k : Int) = (A : Int) := by rw [eA]; push_cast; rfl
          have hP1 : P1 ≤ 1000000 := by
            rw [eP1]; exact Nat.le_trans (Nat.mul_le_mul (Nat.le_of_lt (Nat.lt_of_lt_of_le hlt hb1)) hb2) (by decide)
          have hP2 : P2 ≤ 1000000000 := by
            rw [eP2]; exact Nat.le_trans (Nat.mul_le_mul hP1 hb3) (by decide)
          have eA' : A = o * n * inner + k := by rw [eA, eP2, eP1]
          have HEA := Lib.hid eA'
          clear eP1 eP2 eA eA'
          go_wp2_with fail
          go_loopw [40] (fun oo wr => ∃ i' : Nat, i' ≤ n ∧ oo = .int .i64 i' ∧ (∃ F', RowF wr (w.heap.size + 2) G T F' ∧ DoneF r n inner o k i' F') ∧ St w wr kk b bn s i f c x) (fun oo _ => n - (intOf oo).toNat)
          case atStart => exact ⟨0, Nat.zero_le _, rfl, ⟨_, HROW.out, HD.out⟩, HST.out⟩
          case round =>
            clear HROW HD HST f1 f2 f3
            obtain ⟨i', hi, rfl, ⟨F', hrow, hdone⟩, hst⟩ := hrel
            have HROW := Lib.hid hrow
            have HD := Lib.hid hdone
            have HST := Lib.hid hst
            clear hrow hdone hst
            by_cases hlti : i' < n
            · obtain ⟨Q, eQ⟩ : ∃ Q, Q = i' * inner := ⟨_, rfl⟩
              obtain ⟨I, eI⟩ : ∃ I, I = A + Q := ⟨_, rfl⟩
              have hI : I < T := by rw [eI, HEA.out, eQ, HT.out]; exact idx_lt hlt hltk hlti
              have f4 : (i' : Int) * (inner : Int) = (Q : Int) := by rw [eQ]; push_cast; rfl
              have f5 : (A : Int) + (Q : Int) = (I : Int) := by rw [eI]; push_cast; rfl
              have hQ : Q ≤ 1000000 := by omega
              have hA : A ≤ 1000000 := by omega
              have eI' : I = o * n * inner + k + i' * inner := by rw [eI, HEA.out, eQ]
              have HEI := Lib.hid eI'
              have hup := HUP.out o k i' wr hlt hltk hlti (by rw [← HEA.out]; exact hA) HST.out.bel
              rw [← HEA.out, ← scanR_at hltk hlti, ← eI', ← HR.out] at hup
              have HUPI := Lib.hid hup
              obtain ⟨h0, h1, h2, h3, h4, h5, h6, h7⟩ := HST.out.box
              clear eQ eI eI' hup
              go_wp2_with fail
              refine HUPI.out.mono ?_
              rintro e w4 ⟨rfl, hb4⟩
              have HST4 := Lib.hid (HST.out.step hb4)
              have HROW4 := Lib.hid (HROW.out.below hb4)
              clear hb4 h0 h1 h2 h3 h4 h5 h6 h7 HST HROW HUPI
              cases hr : r I with
              | none =>
                have HBAD : Hid (∃ c, c < T ∧ r c = none) := ⟨_, hI, hr⟩
                clear hr
                obtain ⟨⟨h0, h1, h2, h3, h4, h5, h6, h7⟩, hz⟩ := boxed_of HST4.out.res
                go_wp2
                refine bodyPost_ret (v := .tuple #[vecV 0 vnil 0 vnil vnil vnil vnil vnil, .int .i64 24]) ?_ rfl (.inr ⟨HBAD.out, rfl, below_set8 HST4.out.bel (Nat.le_succ _) _ _ _ _ _ _ _ _⟩)
                exact ret_vec2 (fn := Tryz.f36) (p := 10) (u := 11) rfl _ _ (w.heap.size + 1) (by rfl) (set8_block HST4.out.res _ _ _ _ _ _ _ _)
              | some y =>
                have HRI := Lib.hid hr
                clear hr
                have hco := HROW4.out.cell hI
                have hfo := HROW4.out.frozen I
                have hstore := fun m => store_float hco hfo .f64 y m
                have HROW5 := Lib.hid (HROW4.out.put hI y)
                have HD5 := Lib.hid (HD.out.put HEI.out HRI.out)
                have HST5 := Lib.hid (HST4.out.put (j := I) HROW4.out.low.1 (.float .f64 y))
                go_wp2
                go_roundw
                case rel => exact ⟨i' + 1, by omega, by go_num, ⟨_, HROW5.out, HD5.out⟩, HST5.out⟩
                case measure => simp [intOf]; omega
            · obtain rfl : i' = n := by omega
              go_wp2
              go_roundw
              case rel => exact ⟨k + 1, by omega, by go_num, ⟨_, HROW.out, HD.out.nextK⟩, HST.out⟩
              case measure => simp [intOf]; omega
        · obtain rfl : k = inner := by omega
          go_wp2
          go_roundw
          case rel => exact ⟨o + 1, by omega, by go_num, ⟨_, HROW.out, HD.out.nextO⟩, HST.out⟩
          case measure => simp [intOf]; omega
    · obtain rfl : o = outer := by omega
      have HALL : Hid (∀ j, j < T → r j = some (F' j)) := by rw [HT.out]; exact HD.out.all
      have HALLN : Hid (∀ c, c < T → ∃ y, r c = some y) := fun c hc => ⟨_, HALL.out c hc⟩
      have HOWNN : Hid (Own1 wr (w.heap.size + 2) 47 (.slice (some ⟨G, 0, none⟩) T T) ((List.range T).map fun j => .float .f64 (getR r j))) := by
        have h := HROW.out
        unfold RowF at h
        have e : ((List.range T).map fun j => Value.float .f64 (F' j)) = (List.range T).map fun j => .float .f64 (getR r j) := by
          apply List.map_congr_left
          intro j hj
          unfold getR
          rw [HALL.out j (List.mem_range.1 hj)]; rfl
        rw [e] at h
        exact h
      have HTFO : Hid (∀ j, j < T → TF (getR r j)) := by
        intro j hj
        have hj2 := hj
        rw [HT.out] at hj2
        obtain ⟨o', k', i', h1, h2, h3, e⟩ := idx_surj hj2
        have hy := HALL.out j hj
        unfold getR
        rw [hy]
        rw [HR.out, e, scanR_at h2 h3, ← e] at hy
        refine stepsR_tf HP.out (n := i' + 1) (by omega) (fun i2 hi2 => HTF.out _ ?_) (i' + 1 - 1) (Nat.le_refl _) _ hy
        rw [HT.out]
        exact idx_lt h1 h2 (by omega)
      have HNUMS := Lib.hid (numbers_any (fun j => H j ∨ j = w.heap.size + 1) (.slice (some ⟨G, 0, none⟩) T T) T (getR r) wr (fun j e => by
        have h1 := HST.out.sz
        rcases e with e | e
        · have := HH.out j e; omega
        · omega) HOWNN.out.reads hbT HTFO.out)
      clear HALL HOWNN HNV HTF HUP HD HROW
      go_wp2_with fail
      refine HNUMS.out.mono ?_
      rintro e w5 ⟨k5, b5, bn5, s5, i5, f5, c5, x5, rfl, hk5, hb5⟩
      have HS5 := Lib.hid (HST.out.step hb5)
      have HK5 := Lib.hid hk5
      clear hb5 hk5
      have z5 : w.heap.size < w5.heap.size := HS5.out.box.lt
      have z5' : w.heap.size + 1 < w5.heap.size := HS5.out.sz
      have HKE := Lib.hid ((HK5.out.set8 (.inr rfl) (.int .i64 k5) (.slice b5.1 b5.2.1 b5.2.2) (.int .i64 bn5) (.slice s5.1 s5.2.1 s5.2.2) (.slice i5.1 i5.2.1 i5.2.2) (.slice f5.1 f5.2.1 f5.2.2) (.slice c5.1 c5.2.1 c5.2.2) (.slice x5.1 x5.2.1 x5.2.2)).sub (H' := H) fun _ _ e => .inl e)
      have HBE := Lib.hid (below_set8 HS5.out.bel (Nat.le_succ _) (.int .i64 k5) (.slice b5.1 b5.2.1 b5.2.2) (.int .i64 bn5) (.slice s5.1 s5.2.1 s5.2.2) (.slice i5.1 i5.2.1 i5.2.2) (.slice f5.1 f5.2.1 f5.2.2) (.slice c5.1 c5.2.1 c5.2.2) (.slice x5.1 x5.2.1 x5.2.2))
      have HRE := Lib.hid (set8_block HS5.out.res (.int .i64 k5) (.slice b5.1 b5.2.1 b5.2.2) (.int .i64 bn5) (.slice s5.1 s5.2.1 s5.2.2) (.slice i5.1 i5.2.1 i5.2.2) (.slice f5.1 f5.2.1 f5.2.2) (.slice c5.1 c5.2.1 c5.2.2) (.slice x5.1 x5.2.1 x5.2.2))
      obtain ⟨⟨h0, h1, h2, h3, h4, h5, h6, h7⟩, hz⟩ := boxed_of HS5.out.res
      go_wp2
      refine bodyPost_ret (v := .tuple #[vecW k5 b5 bn5 s5 i5 f5 c5 x5, .int .i64 0]) ?_ rfl (.inl ⟨HALLN.out, k5, b5, bn5, s5, i5, f5, c5, x5, rfl, HKE.out.step (bel1 _ _), bel_both HBE.out (bel1 _ _)⟩)
      exact ret_vec2 (fn := Tryz.f36) (p := 10) (u := 11) rfl _ _ (w.heap.size + 1) (by rfl) ((Below.heap_alloc _ _ _ (lt_of_block HRE.out)).trans HRE.out)
end Go.Proofs.YtdddmehchfnppaaGreatDoor
namespace Go.Proofs.YtdddmehchfnppaaGreatDoor
open Go Go.RowKit Go.Proofs Fl

/-- a row of T values that the call made, at block g -/
def RowV (e : TypeId) (w : World) (B g T : Nat) (F : Nat → Value) : Prop := Own1 w B e (.slice (some ⟨g, 0, none⟩) T T) ((List.range T).map F)
theorem RowV.ow {e : TypeId} {w : World} {B g T : Nat} {F : Nat → Value} (h : RowV e w B g T F) : w.ownsRow B e 1 (.slice (some ⟨g, 0, none⟩) T T) T ((List.range T).map F) := by
  have := h
  unfold RowV Own1 at this
  rw [List.length_map, List.length_range] at this
  exact this
theorem RowV.of_ow {e : TypeId} {w : World} {B g T : Nat} {F : Nat → Value} (h : w.ownsRow B e 1 (.slice (some ⟨g, 0, none⟩) T T) T ((List.range T).map F)) : RowV e w B g T F := by
  unfold RowV Own1
  rw [List.length_map, List.length_range]
  exact h
theorem RowV.put {e : TypeId} {w : World} {B g T : Nat} {F : Nat → Value} (h : RowV e w B g T F) {k : Nat} (hk : k < T) (u : Value) : RowV e (w.setCell ⟨g, k, none⟩ u) B g T (fun j => if j = k then u else F j) := by
  have h2 := (World.ownsRow.stored h.ow k u).1
  rw [set_map_range hk] at h2
  exact RowV.of_ow h2
theorem RowV.cell {e : TypeId} {w : World} {B g T : Nat} {F : Nat → Value} (h : RowV e w B g T F) {k : Nat} (hk : k < T) : w.cell? ⟨g, k, none⟩ = some (F k) := by
  have := World.ownsRow.cellAt h.ow k (by omega)
  rw [this]
  simp [hk]
theorem RowV.frozen {e : TypeId} {w : World} {B g T : Nat} {F : Nat → Value} (h : RowV e w B g T F) (k : Nat) : w.frozen? ⟨g, k, none⟩ = false := World.ownsRow.frozenAt h.ow k
theorem RowV.low {e : TypeId} {w : World} {B g T : Nat} {F : Nat → Value} (h : RowV e w B g T F) : B ≤ g ∧ g < w.heap.size := World.ownsRow.lt h.ow g rfl
theorem RowV.made (e : TypeId) (z : Value) (w : World) (B : Nat) (hB : B ≤ w.heap.size) (T : Nat) (hT : T ≤ maxLen) : RowV e (w.alloc (.cells (madeCells #[z] T) e)) B w.heap.size T (fun _ => z) := by
  have h := World.ownsRow_lit (base := B) (e := e) (size := 1) w (madeCells #[z] T) T hB hT (by rw [size_madeCells]; omega)
  rw [toList_madeCells_one] at h
  refine RowV.of_ow ?_
  have e2 : ((List.range T).map fun _ : Nat => z) = List.replicate T z := by
    rw [List.map_const', List.length_range]
  rw [e2]
  exact h
theorem RowV.below {e : TypeId} {w w' : World} {B g T : Nat} {F : Nat → Value} (h : RowV e w B g T F) (hb : Below w.heap.size w w') : RowV e w' B g T F := Own1.below h hb

set_option maxRecDepth 100000 in
set_option maxHeartbeats 2000000 in
theorem sfirst_any (v : Value) (n : Nat) (l : Nat → Bool) (w : World) (hn : n ≤ 1048576) (hb : BitsIn w v n l) (ht : TzTab w) :
    Calls Tryz.prog 111 #[v] w fun e w' => ∃ z g, FirstIs l n z ∧ e = .returned (.agg #[.slice (some ⟨g, 0, none⟩) ((n + 63) / 64) ((n + 63) / 64), .int .i64 (n : Int)]) ∧ RowU w' w.heap.size g ((n + 63) / 64) (packW (fun j => decide (j = z)) n) ∧ Below w.heap.size w w' := by
  have hbin := hb
  obtain ⟨b, o, c, rfl, _⟩ := hb
  obtain ⟨M, hM⟩ : ∃ M, M = (n + 63) / 64 := ⟨_, rfl⟩
  have HB0 := Lib.hid (bel2 w (.cells #[.slice (some ⟨b, o, none⟩) M c, .int .i64 (n : Int)] 26) (.cells bcells 26))
  have HK0 := Lib.hid (block_up (bel1 (w.alloc (.cells #[.slice (some ⟨b, o, none⟩) M c, .int .i64 (n : Int)] 26)) (.cells bcells 26)))
  have HK1 : Hid (((w.alloc (.cells #[.slice (some ⟨b, o, none⟩) M c, .int .i64 (n : Int)] 26)).alloc (.cells bcells 26)).heap[w.heap.size + 1]? = some (.cells bcells 26)) := by
    have h := heap_alloc_new (w.alloc (.cells #[.slice (some ⟨b, o, none⟩) M c, .int .i64 (n : Int)] 26)) (.cells bcells 26)
    have hs : (w.alloc (.cells #[.slice (some ⟨b, o, none⟩) M c, .int .i64 (n : Int)] 26)).heap.size = w.heap.size + 1 := by simp
    rw [hs] at h
    exact h
  have HF := Lib.hid (fun W (hw : Below w.heap.size w W) => first_any _ n l W hn (hbin.below hw) (ht.below hw))
  have HLN := Lib.hid (fun W => blen_any (.slice (some ⟨b, o, none⟩) M c) (n : Int) W)
  have HPK := Lib.hid (fun (g : Nat) (l' : Nat → Bool) W h => pack_any g 0 n n l' hn (Nat.le_refl _) W h)
  have hmk := run_make_row' (P := Tryz.prog) 59 4 (.bool false) 1 Tryz.underlying59 info_bool rfl .i64 .i64 n (by omega) (by omega)
  rw [← hM] at HF HPK ⊢
  clear hbin ht hM
  go_enter Tryz.func111, Tryz.ntmps111
  obtain ⟨p0, p1, pf⟩ := pair_of HK0.out
  go_wp2_with fail
  refine (HLN.out _).mono ?_
  rintro e w2 ⟨rfl, hb2⟩
  have HB2 := Lib.hid ((bel_both HB0.out hb2))
  have HK02 := Lib.hid (show w2.heap[w.heap.size]? = some (.cells #[.slice (some ⟨b, o, none⟩) M c, .int .i64 (n : Int)] 26) by rw [hb2.block _ (lt_of_block HK0.out)]; exact HK0.out)
  have HK12 := Lib.hid (show w2.heap[w.heap.size + 1]? = some (.cells bcells 26) by rw [hb2.block _ (lt_of_block HK1.out)]; exact HK1.out)
  clear hb2 p0 p1 pf HB0 HK0 HK1 HLN
  obtain ⟨G, hG⟩ : ∃ G, G = w2.heap.size := ⟨_, rfl⟩
  have hG2 : w.heap.size + 2 ≤ G := by rw [hG]; exact lt_of_block HK12.out
  have HR3 := Lib.hid (RowV.made 4 (.bool false) w2 (w.heap.size + 2) (by omega) n (by unfold maxLen; omega))
  have HB3 := Lib.hid (bel_both HB2.out (bel1 w2 (.cells (madeCells #[.bool false] n) 4)))
  have HK03 := Lib.hid (show (w2.alloc (.cells (madeCells #[.bool false] n) 4)).heap[w.heap.size]? = some (.cells #[.slice (some ⟨b, o, none⟩) M c, .int .i64 (n : Int)] 26) by rw [Below.heap_alloc _ _ _ (lt_of_block HK02.out)]; exact HK02.out)
  have HK13 := Lib.hid (show (w2.alloc (.cells (madeCells #[.bool false] n) 4)).heap[w.heap.size + 1]? = some (.cells bcells 26) by rw [Below.heap_alloc _ _ _ (lt_of_block HK12.out)]; exact HK12.out)
  rw [← hG] at HR3
  clear HB2 HK12
  obtain ⟨p0, p1, pf⟩ := pair_of HK02.out
  obtain ⟨p03, p13, pf3⟩ := pair_of HK03.out
  go_wp2_with fail
  rw [← hG]
  clear hG p0 p1 pf HK02 hmk
  refine (HF.out _ HB3.out).mono ?_
  rintro e w4 ⟨z, rfl, hz, hb4⟩
  have HZ := Lib.hid hz
  have hzn : z ≤ n := hz.1
  have HR4 := Lib.hid (HR3.out.below hb4)
  have HB4 := Lib.hid (bel_both HB3.out hb4)
  have HK14 := Lib.hid (show w4.heap[w.heap.size + 1]? = some (.cells bcells 26) by rw [hb4.block _ (lt_of_block HK13.out)]; exact HK13.out)
  clear hz hb4 HR3 HB3 HK03 HK13 p03 p13 pf3 HF
  by_cases hlt : z < n
  · have hcw := HR4.out.cell hlt
    have hfw := HR4.out.frozen z
    have HR5 := Lib.hid (HR4.out.put hlt (.bool true))
    have HB5 := Lib.hid (HB4.out.setCell (p := ⟨G, z, none⟩) (by show _ ≤ G; omega) (.bool true))
    have HK15 := Lib.hid ((Below.heap_setCell w4 ⟨G, z, none⟩ (.bool true) (w.heap.size + 1) (by show _ ≠ G; omega)).trans HK14.out)
    have HP := Lib.hid (HPK.out G (fun j => decide (j = z)) _ (fun i hi => by
      rw [Nat.zero_add, HR5.out.cell hi]
      by_cases e : i = z
      · rw [if_pos e, decide_eq_true e]
      · rw [if_neg e, decide_eq_false e]))
    clear HR4 HB4 HK14 HR5
    go_wp2_with fail
    refine HP.out.mono ?_
    rintro e w6 ⟨g, rfl, hr6, hb6⟩
    have hs6 := HB5.out.size
    have hg6 := hr6.low.1
    have hKs := lt_of_block HK15.out
    have HB6 := Lib.hid (bel_both HB5.out hb6)
    have HK16 := Lib.hid (show w6.heap[w.heap.size + 1]? = some (.cells bcells 26) by rw [hb6.block _ (lt_of_block HK15.out)]; exact HK15.out)
    have HR6 := Lib.hid (hr6.lower (show w.heap.size ≤ _ from hs6))
    clear hr6 hb6
    obtain ⟨hk0, hk1, hkf⟩ := pair_of HK16.out
    go_wp2
    refine bodyPost_ret (ret_bits rfl _ _ _ rfl (set2_block HK16.out _ _)) rfl ⟨z, g, HZ.out, rfl, ?_, below_set2 HB6.out (Nat.le_succ _) _ _⟩
    exact own_set2 HR6.out (by show some g ≠ _; intro e; injection e; omega) _ _
  · have hzz : z = n := by omega
    have HP := Lib.hid (HPK.out G (fun j => decide (j = z)) w4 (fun i hi => by
      rw [Nat.zero_add, HR4.out.cell hi, decide_eq_false (by omega)]))
    clear HR4
    go_wp2_with fail
    refine HP.out.mono ?_
    rintro e w6 ⟨g, rfl, hr6, hb6⟩
    have hs6 := HB4.out.size
    have hg6 := hr6.low.1
    have hKs := lt_of_block HK14.out
    have HB6 := Lib.hid (bel_both HB4.out hb6)
    have HK16 := Lib.hid (show w6.heap[w.heap.size + 1]? = some (.cells bcells 26) by rw [hb6.block _ (lt_of_block HK14.out)]; exact HK14.out)
    have HR6 := Lib.hid (hr6.lower (show w.heap.size ≤ _ from hs6))
    clear hr6 hb6
    obtain ⟨hk0, hk1, hkf⟩ := pair_of HK16.out
    go_wp2
    refine bodyPost_ret (ret_bits rfl _ _ _ rfl (set2_block HK16.out _ _)) rfl ⟨z, g, HZ.out, rfl, ?_, below_set2 HB6.out (Nat.le_succ _) _ _⟩
    exact own_set2 HR6.out (by show some g ≠ _; intro e; injection e; omega) _ _
end Go.Proofs.YtdddmehchfnppaaGreatDoor
namespace Go.Proofs.YtdddmehchfnppaaGreatDoor
open Go Go.RowKit Go.Proofs Fl

/-- whether an odd number of the first k are true -/
def pre (f : Nat → Bool) : Nat → Bool
  | 0 => false
  | k + 1 => xor (Go.Proofs.YtdddmehchfnppaaGreatDoor.pre f k) (f k)
/-- a word after k doublings -/
def dbl (x : Nat) : Nat → Nat
  | 0 => x
  | k + 1 => dbl x k ^^^ (dbl x k * 2 ^ (2 ^ k) % 18446744073709551616)
theorem dbl_lt (x : Nat) (hx : x < 18446744073709551616) (k : Nat) : dbl x k < 18446744073709551616 := by
  induction k with
  | zero => exact hx
  | succ k ih => exact Nat.xor_lt_two_pow (n := 64) ih (Nat.mod_lt _ (by decide))
theorem shl_bit (x s m : Nat) (hm : m < 64) : (x * 2 ^ s % 18446744073709551616).testBit m = (decide (s ≤ m) && x.testBit (m - s)) := by
  have h := Nat.testBit_mod_two_pow (x * 2 ^ s) 64 m
  rw [show (2 : Nat) ^ 64 = 18446744073709551616 from rfl] at h
  rw [h, decide_eq_true hm, Bool.true_and, ← Nat.shiftLeft_eq, Nat.testBit_shiftLeft]
theorem dbl_bit (x k m : Nat) (hm : m < 64) : (dbl x k).testBit m = xor (Go.Proofs.YtdddmehchfnppaaGreatDoor.pre x.testBit (m + 1)) (Go.Proofs.YtdddmehchfnppaaGreatDoor.pre x.testBit (m + 1 - 2 ^ k)) := by
  induction k generalizing m with
  | zero =>
    show x.testBit m = xor (xor (Go.Proofs.YtdddmehchfnppaaGreatDoor.pre x.testBit m) (x.testBit m)) (Go.Proofs.YtdddmehchfnppaaGreatDoor.pre x.testBit (m + 1 - 1))
    rw [Nat.add_sub_cancel]
    cases Go.Proofs.YtdddmehchfnppaaGreatDoor.pre x.testBit m <;> cases x.testBit m <;> rfl
  | succ k ih =>
    show (dbl x k ^^^ (dbl x k * 2 ^ (2 ^ k) % 18446744073709551616)).testBit m = _
    rw [Nat.testBit_xor, shl_bit _ _ _ hm, ih m hm, Nat.pow_succ]
    generalize 2 ^ k = s at *
    by_cases h : s ≤ m
    · rw [ih (m - s) (by omega), decide_eq_true h, Bool.true_and, show m - s + 1 = m + 1 - s by omega, show m + 1 - s - s = m + 1 - s * 2 by omega]
      cases Go.Proofs.YtdddmehchfnppaaGreatDoor.pre x.testBit (m + 1) <;> cases Go.Proofs.YtdddmehchfnppaaGreatDoor.pre x.testBit (m + 1 - s) <;> cases Go.Proofs.YtdddmehchfnppaaGreatDoor.pre x.testBit (m + 1 - s * 2) <;> rfl
    · rw [decide_eq_false h, Bool.false_and, Bool.xor_false, show m + 1 - s = 0 by omega, show m + 1 - s * 2 = 0 by omega]
/-- the truths that there are -/
def cutL (l : Nat → Bool) (n j : Nat) : Bool := decide (j < n) && l j
theorem pre_word (l : Nat → Bool) (n i m : Nat) (hm : m ≤ 64) : Go.Proofs.YtdddmehchfnppaaGreatDoor.pre (cutL l n) (64 * i + m) = xor (Go.Proofs.YtdddmehchfnppaaGreatDoor.pre (cutL l n) (64 * i)) (Go.Proofs.YtdddmehchfnppaaGreatDoor.pre (packW l n i).testBit m) := by
  induction m with
  | zero => show _ = xor _ false; rw [Bool.xor_false]; rfl
  | succ m ih =>
    show xor (Go.Proofs.YtdddmehchfnppaaGreatDoor.pre (cutL l n) (64 * i + m)) (cutL l n (64 * i + m)) = xor _ (xor (Go.Proofs.YtdddmehchfnppaaGreatDoor.pre (packW l n i).testBit m) ((packW l n i).testBit m))
    rw [ih (by omega), packW_bit _ _ _ _ (by omega)]
    unfold cutL
    rw [Bool.xor_assoc]
/-- all ones, or none -/
def carW (t : Bool) : Nat := if t then 18446744073709551615 else 0
theorem carW_lt (t : Bool) : carW t < 18446744073709551616 := by cases t <;> decide
theorem carW_bit (t : Bool) (m : Nat) (hm : m < 64) : (carW t).testBit m = t := by
  cases t
  · exact Nat.zero_testBit m
  · have := not_bit 0 m hm (by decide)
    rw [Nat.zero_testBit] at this
    exact this
def parW (l : Nat → Bool) (n i : Nat) : Nat := dbl (packW l n i) 6 ^^^ carW (Go.Proofs.YtdddmehchfnppaaGreatDoor.pre (cutL l n) (64 * i))
theorem parW_lt (l : Nat → Bool) (n i : Nat) : parW l n i < 18446744073709551616 := Nat.xor_lt_two_pow (n := 64) (dbl_lt _ (packW_lt l n i) 6) (carW_lt _)
theorem parW_bit (l : Nat → Bool) (n i m : Nat) (hm : m < 64) : (parW l n i).testBit m = Go.Proofs.YtdddmehchfnppaaGreatDoor.pre (cutL l n) (64 * i + (m + 1)) := by
  unfold parW
  rw [Nat.testBit_xor, dbl_bit _ _ _ hm, carW_bit _ _ hm, pre_word l n i (m + 1) (by omega), show m + 1 - 2 ^ 6 = 0 by omega]
  show xor (xor _ false) _ = _
  rw [Bool.xor_false, Bool.xor_comm]
theorem parW_top (l : Nat → Bool) (n i : Nat) : IntKind.u64.wrap (-((parW l n i : Int) / 9223372036854775808)) = ((carW (Go.Proofs.YtdddmehchfnppaaGreatDoor.pre (cutL l n) (64 * (i + 1))) : Nat) : Int) := by
  have h := parW_bit l n i 63 (by decide)
  have hlt := parW_lt l n i
  rw [show 64 * i + (63 + 1) = 64 * (i + 1) by omega] at h
  rw [← h, Nat.testBit_eq_decide_div_mod_eq]
  have e : parW l n i / 2 ^ 63 % 2 = parW l n i / 9223372036854775808 := by
    rw [show (2 : Nat) ^ 63 = 9223372036854775808 from rfl]
    omega
  rw [e, IntKind.wrap_u64]
  generalize parW l n i = y at *
  by_cases h1 : y / 9223372036854775808 = 1
  · rw [decide_eq_true h1]
    show _ = ((18446744073709551615 : Nat) : Int)
    omega
  · rw [decide_eq_false h1]
    show _ = ((0 : Nat) : Int)
    omega
theorem pre_cut (l : Nat → Bool) (n k : Nat) (h : k ≤ n) : Go.Proofs.YtdddmehchfnppaaGreatDoor.pre (cutL l n) k = Go.Proofs.YtdddmehchfnppaaGreatDoor.pre l k := by
  induction k with
  | zero => rfl
  | succ k ih =>
    show xor (Go.Proofs.YtdddmehchfnppaaGreatDoor.pre (cutL l n) k) (cutL l n k) = xor (Go.Proofs.YtdddmehchfnppaaGreatDoor.pre l k) (l k)
    rw [ih (by omega)]
    unfold cutL
    rw [decide_eq_true (by omega), Bool.true_and]
end Go.Proofs.YtdddmehchfnppaaGreatDoor
namespace Go.Proofs.YtdddmehchfnppaaGreatDoor
open Go Go.RowKit Go.Proofs Fl

theorem dbl_step (x k : Nat) (hx : x < 18446744073709551616) : bits .xor .u64 (dbl x k : Int) (IntKind.u64.wrap ((dbl x k : Int) * 2 ^ (2 ^ k))) = ((dbl x (k + 1) : Nat) : Int) := by
  rw [shl_u64]
  exact u64_xor_nat _ _ (dbl_lt x hx k) (Nat.mod_lt _ (by decide))

set_option maxRecDepth 100000 in
set_option maxHeartbeats 2000000 in
theorem parity_any (b o c n : Nat) (l : Nat → Bool) (w : World) (hn : n ≤ 1048576) (hc : ∀ j, j < (n + 63) / 64 → w.cell? ⟨b, o + j, none⟩ = some (.int .u64 (packW l n j : Nat))) :
    Calls Tryz.prog 110 #[.agg #[.slice (some ⟨b, o, none⟩) ((n + 63) / 64) c, .int .i64 (n : Int)]] w fun e w' => ∃ g, e = .returned (.agg #[.slice (some ⟨g, 0, none⟩) ((n + 63) / 64) ((n + 63) / 64), .int .i64 (n : Int)]) ∧ RowU w' w.heap.size g ((n + 63) / 64) (packW (fun i => Go.Proofs.YtdddmehchfnppaaGreatDoor.pre l (i + 1)) n) ∧ Below w.heap.size w w' := by
  obtain ⟨M, hM⟩ : ∃ M, M = (n + 63) / 64 := ⟨_, rfl⟩
  rw [← hM] at hc ⊢
  have HC := Lib.hid hc
  have HM := Lib.hid hM
  have hMb : M ≤ 16384 := by omega
  have hmk := run_make_row' (P := Tryz.prog) 24 124 (.int .u64 0) 8 Tryz.underlying24 info_u64 rfl .i64 .i64 M (by omega) (by omega)
  clear hc hM
  go_enter Tryz.func110, Tryz.ntmps110
  go_wp2_with fail
  have HMA := Lib.hid (notMid_a w (.cells #[.slice (some ⟨b, o, none⟩) M c, .int .i64 (n : Int)] 26) (n : Int) M (by unfold maxLen; omega))
  have HMB := Lib.hid (notMid_b w (.cells #[.slice (some ⟨b, o, none⟩) M c, .int .i64 (n : Int)] 26) (n : Int) M (by unfold maxLen; omega))
  go_cut [3] from 8 (fun p wx => NotMid w (.cells #[.slice (some ⟨b, o, none⟩) M c, .int .i64 (n : Int)] 26) (n : Int) M p wx)
  case first =>
    go_region
    all_goals
      go_wp2
      go_meet
      first | exact HMA.out | exact HMB.out
  obtain ⟨V, g, rfl, hr0, hb0, hk0, hk1, hk2, hVg, hV⟩ := hcut
  have HR0 := Lib.hid hr0
  have HB0 := Lib.hid hb0
  have HK0 := Lib.hid hk0
  have HK1 := Lib.hid hk1
  have HK2 := Lib.hid hk2
  have hg2 := hr0.low.1
  clear hr0 hb0 hk0 hk1 hk2 hmk
  obtain ⟨hx0, hx1, _⟩ := pair_of HK0.out
  go_wp2_with fail
  go_loopw [4, 18] (fun cc ii wr => ∃ i : Nat, i ≤ M ∧ ii = .int .i64 i ∧ cc = .int .u64 ((carW (Go.Proofs.YtdddmehchfnppaaGreatDoor.pre (cutL l n) (64 * i)) : Nat) : Int) ∧ RowU wr (w.heap.size + 2) g M (fun j => if j < i then parW l n j else 0) ∧ Below w.heap.size w wr ∧ wr.heap[w.heap.size]? = some (.cells #[.slice (some ⟨b, o, none⟩) M c, .int .i64 (n : Int)] 26) ∧ wr.heap[w.heap.size + 1]? = some (.cells bcells 26) ∧ wr.heap[V]? = some (.cells #[.slice (some ⟨g, 0, none⟩) M M, .int .i64 (n : Int)] 26)) (fun _ ii _ => M - (intOf ii).toNat)
  case atStart => exact ⟨0, Nat.zero_le _, rfl, rfl, HR0.out.same (fun j _ => by rw [if_neg (Nat.not_lt_zero _)]), HB0.out, HK0.out, HK1.out, HK2.out⟩
  case round =>
    clear HR0 HB0 HK0 HK1 HK2 hx0 hx1
    obtain ⟨i, hi, rfl, rfl, hrow, hbl, hk0, hk1, hk2⟩ := hrel
    have HROW := Lib.hid hrow
    have HBL := Lib.hid hbl
    have HK0 := Lib.hid hk0
    have HK1 := Lib.hid hk1
    have HK2 := Lib.hid hk2
    clear hrow hbl hk0 hk1 hk2
    by_cases hlt : i < M
    · have hcell : wr.cell? ⟨b, o + i, none⟩ = some (.int .u64 (packW l n i : Nat)) := by rw [HBL.out.cell (cell_lt (HC.out i hlt))]; exact HC.out i hlt
      have hxlt := packW_lt l n i
      have HXL := Lib.hid hxlt
      obtain ⟨hv0, hv1, hvf⟩ := pair_of HK2.out
      have HPUT := Lib.hid (HROW.out.put hlt (parW l n i) (F' := fun j => if j < i + 1 then parW l n j else 0) (fun j _ => by
        by_cases e : j = i
        · rw [if_pos e, if_pos (by omega), e]
        · rw [if_neg e]
          by_cases h2 : j < i
          · rw [if_pos h2, if_pos (by omega)]
          · rw [if_neg h2, if_neg (by omega)]))
      have hfin : bits .xor .u64 (dbl (packW l n i) 6 : Int) ((carW (Go.Proofs.YtdddmehchfnppaaGreatDoor.pre (cutL l n) (64 * i)) : Nat) : Int) = ((parW l n i : Nat) : Int) := u64_xor_nat _ _ (dbl_lt _ hxlt 6) (carW_lt _)
      have HFIN := Lib.hid hfin
      have HTOP := Lib.hid (parW_top l n i)
      have HD0 : Hid (dbl (packW l n i) 0 = packW l n i) := rfl
      have HSTEP := Lib.hid (fun k => dbl_step (packW l n i) k hxlt)
      have HDL := Lib.hid (fun k => dbl_lt (packW l n i) hxlt k)
      have HPL := Lib.hid (parW_lt l n i)
      have hcw := HROW.out.cell hlt
      have hfw := HROW.out.frozen i
      have HB3 := Lib.hid (HBL.out.setCell (p := ⟨g, i, none⟩) (by show _ ≤ g; omega) (.int .u64 ((parW l n i : Nat) : Int)))
      have HK03 := Lib.hid ((Below.heap_setCell wr ⟨g, i, none⟩ (.int .u64 ((parW l n i : Nat) : Int)) w.heap.size (by show _ ≠ g; omega)).trans HK0.out)
      have HK13 := Lib.hid ((Below.heap_setCell wr ⟨g, i, none⟩ (.int .u64 ((parW l n i : Nat) : Int)) (w.heap.size + 1) (by show _ ≠ g; omega)).trans HK1.out)
      have HK23 := Lib.hid ((Below.heap_setCell wr ⟨g, i, none⟩ (.int .u64 ((parW l n i : Nat) : Int)) V (by show _ ≠ g; exact hVg)).trans HK2.out)
      have HCN := Lib.hid (HPUT.out.cell hlt)
      generalize hdd : dbl (packW l n i) = D at *
      generalize carW (Go.Proofs.YtdddmehchfnppaaGreatDoor.pre (cutL l n) (64 * i)) = C at *
      generalize parW l n i = Y at *
      generalize packW l n i = x at *
      clear hdd hfin hxlt
      go_wp2_with fail
      go_loop [6, 7] (fun xx ss => ∃ k : Nat, k ≤ 6 ∧ xx = .int .u64 ((D k : Nat) : Int) ∧ ss = .int .i64 ((2 ^ k : Nat) : Int)) (fun _ ss => 64 - (intOf ss).toNat)
      case atStart => exact ⟨0, by decide, by rw [HD0.out], rfl⟩
      case round =>
        obtain ⟨k, hk, rfl, rfl⟩ := hrel
        by_cases hk6 : k < 6
        · have hS5 : 2 ^ k ≤ 2 ^ 5 := Nat.pow_le_pow_right (by decide) (by omega)
          have hS1 : 1 ≤ 2 ^ k := Nat.one_le_two_pow
          have HST := Lib.hid (HSTEP.out k)
          have HES : Hid (2 ^ (k + 1) = 2 ^ k * 2) := Nat.pow_succ 2 k
          have hdk := HDL.out k
          generalize 2 ^ k = S at *
          generalize D k = Dk at *
          have hS32 : S ≤ 32 := hS5
          clear hS5
          go_wp2
          go_round
          case rel => exact ⟨k + 1, by omega, by rw [HST.out], by rw [HES.out]; congr 1⟩
          case measure => simp [intOf]; omega
        · obtain rfl : k = 6 := by omega
          have h64 : ((2 ^ 6 : Nat) : Int) = 64 := rfl
          rw [h64]
          have hfin := HFIN.out
          have htop := HTOP.out
          have hpl := HPL.out
          have hcn := HCN.out
          go_wp2
          go_roundw
          case rel => exact ⟨i + 1, by omega, by go_num, rfl, HPUT.out, HB3.out, HK03.out, HK13.out, HK23.out⟩
          case measure => simp [intOf]; omega
    · obtain rfl : i = M := by omega
      have HT := Lib.hid (trim_any (w.heap.size + 2) g n i _ wr hn HM.out HROW.out (fun j hj => by
        show (if j < i then _ else _) < _
        rw [if_pos hj]
        exact parW_lt l n j))
      have HF : Hid (∀ j, j < i → trimF n i (fun j => if j < i then parW l n j else 0) j = packW (fun i => Go.Proofs.YtdddmehchfnppaaGreatDoor.pre l (i + 1)) n j) := by
        refine trimF_pack n i _ (fun i => Go.Proofs.YtdddmehchfnppaaGreatDoor.pre l (i + 1)) HM.out (fun j hj => ?_) (fun j hj m hm hin => ?_)
        · show (if j < i then _ else _) < _
          rw [if_pos hj]
          exact parW_lt l n j
        · show Nat.testBit (if j < i then _ else _) m = _
          rw [if_pos hj, parW_bit l n j m hm, pre_cut l n _ (by omega)]
          rfl
      obtain ⟨hv0, hv1, hvf⟩ := pair_of HK2.out
      go_wp2_with fail
      refine HT.out.mono ?_
      rintro e w5 ⟨rfl, hr5, hb5, ho5⟩
      have HR5 := Lib.hid (hr5.same (F' := packW (fun i => Go.Proofs.YtdddmehchfnppaaGreatDoor.pre l (i + 1)) n) (fun j hj => (HF.out j hj).symm))
      have HB5 := Lib.hid (HBL.out.trans (hb5.mono (by omega)))
      have HK5 := Lib.hid (show w5.heap[w.heap.size + 1]? = some (.cells bcells 26) by rw [hb5.block _ (by omega)]; exact HK1.out)
      have hVl : V < wr.heap.size := lt_of_block HK2.out
      have HKV := Lib.hid (show w5.heap[V]? = some (.cells #[.slice (some ⟨g, 0, none⟩) i i, .int .i64 (n : Int)] 26) by rw [ho5 V hVl hVg]; exact HK2.out)
      clear hr5 hb5 ho5 hv0 hv1 hvf
      obtain ⟨hv0, hv1, hvf⟩ := pair_of HKV.out
      obtain ⟨hk0, hk1, hkf⟩ := pair_of HK5.out
      go_wp2
      refine bodyPost_ret (ret_bits rfl _ _ _ rfl (set2_block HK5.out _ _)) rfl ⟨g, rfl, ?_, below_set2 HB5.out (Nat.le_succ _) _ _⟩
      exact own_set2 (HR5.out.lower (by omega)) (by show some g ≠ _; intro e; injection e; omega) _ _
end Go.Proofs.YtdddmehchfnppaaGreatDoor
