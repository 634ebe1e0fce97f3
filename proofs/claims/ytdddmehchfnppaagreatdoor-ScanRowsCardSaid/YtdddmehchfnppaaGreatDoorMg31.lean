/- The plain law of what the elements come to up to each place, and the walk of scan.floats. Conditions: as each theorem says. -/
import Derived.Test.YtdddmehchfnppaaGreatDoorMg30
import Derived.Test.YtdddmehchfnppaaGreatDoorMg27
import Derived.Test.YtdddmehchfnppaaGreatDoorMg18
namespace Go.Proofs.YtdddmehchfnppaaGreatDoor
open Go Go.RowKit Go.Proofs Fl

/-- what the elements come to up to place j -/
def scanR (g : Nat → Nat → Nat × Int) (F : Nat → Nat) (n inner j : Nat) : Option Nat :=
  rowR g (lineF F n inner (j / (n * inner)) (j % (n * inner) % inner)) (j % (n * inner) / inner + 1)
theorem scanR_at {g : Nat → Nat → Nat × Int} {F : Nat → Nat} {n inner o k i : Nat} (hk : k < inner) (hi : i < n) : scanR g F n inner (o * n * inner + k + i * inner) = rowR g (lineF F n inner o k) (i + 1) := by
  have hlt : k + i * inner < n * inner := by
    have h1 : (i + 1) * inner ≤ n * inner := Nat.mul_le_mul_right _ hi
    rw [Nat.add_mul] at h1
    omega
  have e : o * n * inner + k + i * inner = n * inner * o + (k + i * inner) := by
    have : o * n * inner = n * inner * o := by rw [Nat.mul_assoc, Nat.mul_comm]
    omega
  have e1 : (o * n * inner + k + i * inner) / (n * inner) = o := by
    rw [e, Nat.mul_add_div (by omega), Nat.div_eq_of_lt hlt]; omega
  have e2 : (o * n * inner + k + i * inner) % (n * inner) = k + i * inner := by
    rw [e, Nat.mul_add_mod, Nat.mod_eq_of_lt hlt]
  have e3 : (k + i * inner) % inner = k := by
    rw [Nat.add_mul_mod_self_right, Nat.mod_eq_of_lt hk]
  have e4 : (k + i * inner) / inner = i := by
    rw [Nat.add_mul_div_right _ _ (by omega), Nat.div_eq_of_lt hk]; omega
  unfold scanR
  rw [e1, e2, e3, e4]

/-- a row of T numbers that the call made, at block g -/
def RowF (w : World) (B g T : Nat) (F : Nat → Nat) : Prop := Own1 w B 47 (.slice (some ⟨g, 0, none⟩) T T) ((List.range T).map fun j => .float .f64 (F j))
theorem RowF.ow {w : World} {B g T : Nat} {F : Nat → Nat} (h : RowF w B g T F) : w.ownsRow B 47 1 (.slice (some ⟨g, 0, none⟩) T T) T ((List.range T).map fun j => .float .f64 (F j)) := by
  have := h
  unfold RowF Own1 at this
  rw [List.length_map, List.length_range] at this
  exact this
theorem RowF.of_ow {w : World} {B g T : Nat} {F : Nat → Nat} (h : w.ownsRow B 47 1 (.slice (some ⟨g, 0, none⟩) T T) T ((List.range T).map fun j => .float .f64 (F j))) : RowF w B g T F := by
  unfold RowF Own1
  rw [List.length_map, List.length_range]
  exact h
theorem RowF.put {w : World} {B g T : Nat} {F : Nat → Nat} (h : RowF w B g T F) {k : Nat} (hk : k < T) (z : Nat) : RowF (w.setCell ⟨g, k, none⟩ (.float .f64 z)) B g T (fun j => if j = k then z else F j) := by
  have h2 := (World.ownsRow.stored h.ow k (.float .f64 z)).1
  rw [set_map_range hk] at h2
  refine RowF.of_ow ?_
  have e : ((List.range T).map fun j => Value.float .f64 (if j = k then z else F j)) = (List.range T).map fun j => if j = k then .float .f64 z else .float .f64 (F j) := by
    apply List.map_congr_left
    intro j _
    split <;> rfl
  rw [e]
  exact h2
theorem RowF.cell {w : World} {B g T : Nat} {F : Nat → Nat} (h : RowF w B g T F) {k : Nat} (hk : k < T) : w.cell? ⟨g, k, none⟩ = some (.float .f64 (F k)) := by
  have := World.ownsRow.cellAt h.ow k (by omega)
  rw [this]
  simp [hk]
theorem RowF.frozen {w : World} {B g T : Nat} {F : Nat → Nat} (h : RowF w B g T F) (k : Nat) : w.frozen? ⟨g, k, none⟩ = false := World.ownsRow.frozenAt h.ow k
theorem RowF.low {w : World} {B g T : Nat} {F : Nat → Nat} (h : RowF w B g T F) : B ≤ g ∧ g < w.heap.size := World.ownsRow.lt h.ow g rfl
theorem RowF.made (w : World) (B : Nat) (hB : B ≤ w.heap.size) (T : Nat) (hT : T ≤ maxLen) : RowF (w.alloc (.cells (madeCells #[.float .f64 0] T) 47)) B w.heap.size T (fun _ => 0) := by
  have h := World.ownsRow_lit (base := B) (e := 47) (size := 1) w (madeCells #[.float .f64 0] T) T hB hT (by rw [size_madeCells]; omega)
  rw [toList_madeCells_one] at h
  refine RowF.of_ow ?_
  have e : ((List.range T).map fun _ : Nat => Value.float .f64 0) = List.replicate T (.float .f64 0) := by
    rw [List.map_const', List.length_range]
  rw [e]
  exact h
theorem RowF.below {w w' : World} {B g T : Nat} {F : Nat → Nat} (h : RowF w B g T F) (hb : Below w.heap.size w w') : RowF w' B g T F := Own1.below h hb

/-- the places ahead of (o, k, i) hold what they are to hold -/
def DoneF (r : Nat → Option Nat) (n inner o k i : Nat) (F : Nat → Nat) : Prop :=
  ∀ o' k' i', k' < inner → i' < n → (o' < o ∨ (o' = o ∧ (k' < k ∨ (k' = k ∧ i' < i)))) → r (o' * n * inner + k' + i' * inner) = some (F (o' * n * inner + k' + i' * inner))
theorem DoneF.zero (r : Nat → Option Nat) (n inner : Nat) (F : Nat → Nat) : DoneF r n inner 0 0 0 F := fun o' k' i' _ _ h => by omega
theorem DoneF.nextK {r : Nat → Option Nat} {n inner o k : Nat} {F : Nat → Nat} (h : DoneF r n inner o k n F) : DoneF r n inner o (k + 1) 0 F := fun o' k' i' h1 h2 h3 => h o' k' i' h1 h2 (by omega)
theorem DoneF.nextO {r : Nat → Option Nat} {n inner o : Nat} {F : Nat → Nat} (h : DoneF r n inner o inner 0 F) : DoneF r n inner (o + 1) 0 0 F := fun o' k' i' h1 h2 h3 => h o' k' i' h1 h2 (by omega)
theorem DoneF.put {r : Nat → Option Nat} {n inner o k i I y : Nat} {F : Nat → Nat} (h : DoneF r n inner o k i F) (hI : I = o * n * inner + k + i * inner) (hr : r I = some y) : DoneF r n inner o k (i + 1) (fun j => if j = I then y else F j) := by
  intro o' k' i' h1 h2 h3
  show _ = some (if o' * n * inner + k' + i' * inner = I then y else F (o' * n * inner + k' + i' * inner))
  by_cases e : o' * n * inner + k' + i' * inner = I
  · rw [if_pos e, e]; exact hr
  · rw [if_neg e]
    refine h o' k' i' h1 h2 ?_
    by_cases e2 : o' = o ∧ k' = k ∧ i' = i
    · obtain ⟨rfl, rfl, rfl⟩ := e2
      exact absurd hI.symm e
    · omega
theorem DoneF.all {r : Nat → Option Nat} {outer n inner : Nat} {F : Nat → Nat} (h : DoneF r n inner outer 0 0 F) : ∀ j, j < outer * n * inner → r j = some (F j) := by
  intro j hj
  obtain ⟨o, k, i, h1, h2, h3, rfl⟩ := idx_surj hj
  exact h o k i h2 h3 (.inl h1)

/-- what a function that puts rows together up to each place tells -/
def SlOut (H : Nat → Prop) (w : World) (r : Nat → Option Nat) (T : Nat) (e : Ending) (w' : World) : Prop :=
  ((∀ c, c < T → ∃ y, r c = some y) ∧ VecOk H w (fun u W => NumV u (leastF (getR r) T : Nat) T (getR r) W) e w') ∨
  ((∃ c, c < T ∧ r c = none) ∧ e = .returned (.tuple #[vecV 0 vnil 0 vnil vnil vnil vnil vnil, .int .i64 24]) ∧ Below w.heap.size w w')

set_option maxRecDepth 100000 in
set_option maxHeartbeats 4000000 in
theorem sfloats_any {pw : Nat → Nat → Nat × Int} (hp : PowIs pw) (H : Nat → Prop) (q : Int) (hq : knownB q = true) (kk : Int) (b : Value) (bn : Int) (s i f c x : Value) (T : Nat) (outer n inner : Nat) (F : Nat → Nat) (w : World) (hH : ∀ b, H b → b < w.heap.size)
    (hT : T = outer * n * inner) (hb1 : outer ≤ 1000) (hb2 : n ≤ 1000) (hb3 : inner ≤ 1000) (hbT : T ≤ 1000000)
    (hN : ∀ W, Below w.heap.size w W → NumV (vecV kk b bn s i f c x) kk T F W) :
    Calls Tryz.prog 36 #[.int .i64 q, vecV kk b bn s i f c x, .int .i64 (outer : Int), .int .i64 (n : Int), .int .i64 (inner : Int)] w (SlOut H w (scanR (oneP pw q) F n inner) T) := by
  have HT := Lib.hid hT
  have HNV := Lib.hid hN
  have HTF := Lib.hid ((hN w (Below.refl _ _)).tf)
  have HP := Lib.hid hp
  have HH := Lib.hid hH
  have HUP := Lib.hid (fun (o k i' : Nat) (W : World) (ho : o < outer) (hk : k < inner) (hi : i' < n) (hA : o * n * inner + k ≤ 1000000) (hb : Below w.heap.size w W) =>
    upto_any hp q hq kk b bn s i f c x T (o * n * inner + k) i' inner (lineF F n inner o k) F W (by omega) hA hbT (fun j hj => by rw [hT]; exact idx_lt ho hk (by omega)) (fun j _ => rfl) (fun W' hb' => hN W' (bel_both hb hb')))
  unfold RowOut at HUP
  have HSM := Lib.hid (St.new w kk b bn s i f c x)
  have HLEN := Lib.hid (hN _ HSM.out.bel).len
  have hmk := run_make_row' (P := Tryz.prog) 22 47 (.float .f64 0) 8 Tryz.underlying22 info_f64 rfl .i64 .i64 T (by omega) (by omega)
  obtain ⟨r, hr⟩ : ∃ r, r = scanR (oneP pw q) F n inner := ⟨_, rfl⟩
  have HR := Lib.hid hr
  rw [← hr]
  clear hT hN hp hH hq hr
  go_enter Tryz.func36, Tryz.ntmps36
  obtain ⟨h0, h1, h2, h3, h4, h5, h6, h7⟩ := HSM.out.box
  go_wp2_with fail
  refine HLEN.out.mono ?_
  rintro e w2 ⟨rfl, hb2'⟩
  have HS2 := Lib.hid (HSM.out.step hb2')
  have HR0 := Lib.hid (RowF.made w2 (w.heap.size + 2) HS2.out.sz T (by unfold maxLen; omega))
  have HS3 := Lib.hid (HS2.out.al (.cells (madeCells #[.float .f64 0] T) 47))
  clear hb2' h0 h1 h2 h3 h4 h5 h6 h7 HSM HLEN HS2
  obtain ⟨G, hG⟩ : ∃ G, G = w2.heap.size := ⟨_, rfl⟩
  rw [← hG] at HR0
  go_wp2_with fail
  rw [← hG]
  clear hG
  go_loopw [25] (fun oo wr => ∃ o : Nat, o ≤ outer ∧ oo = .int .i64 o ∧ (∃ F', RowF wr (w.heap.size + 2) G T F' ∧ DoneF r n inner o 0 0 F') ∧ St w wr kk b bn s i f c x) (fun oo _ => outer - (intOf oo).toNat)
  case atStart => exact ⟨0, Nat.zero_le _, rfl, ⟨_, HR0.out, DoneF.zero _ _ _ _⟩, HS3.out⟩
  case round =>
    clear hmk HR0 HS3
    obtain ⟨o, ho, rfl, ⟨F', hrow, hdone⟩, hst⟩ := hrel
    have HROW := Lib.hid hrow
    have HD := Lib.hid hdone
    have HST := Lib.hid hst
    clear hrow hdone hst
    by_cases hlt : o < outer
    · go_wp2_with fail
      go_loopw [29] (fun oo wr => ∃ k : Nat, k ≤ inner ∧ oo = .int .i64 k ∧ (∃ F', RowF wr (w.heap.size + 2) G T F' ∧ DoneF r n inner o k 0 F') ∧ St w wr kk b bn s i f c x) (fun oo _ => inner - (intOf oo).toNat)
      case atStart => exact ⟨0, Nat.zero_le _, rfl, ⟨_, HROW.out, HD.out⟩, HST.out⟩
      case round =>
        clear HROW HD HST
        obtain ⟨k, hk, rfl, ⟨F', hrow, hdone⟩, hst⟩ := hrel
        have HROW := Lib.hid hrow
        have HD := Lib.hid hdone
        have HST := Lib.hid hst
        clear hrow hdone hst
        by_cases hltk : k < inner
        · obtain ⟨P1, eP1⟩ : ∃ P1, P1 = o * n := ⟨_, rfl⟩
          obtain ⟨P2, eP2⟩ : ∃ P2, P2 = P1 * inner := ⟨_, rfl⟩
          obtain ⟨A, eA⟩ : ∃ A, A = P2 + k := ⟨_, rfl⟩
          have f1 : (o : Int) * (n : Int) = (P1 : Int) := by rw [eP1]; push_cast; rfl
          have f2 : (P1 : Int) * (inner : Int) = (P2 : Int) := by rw [eP2]; push_cast; rfl
          have f3 : (P2 : Int) + (k : Int) = (A : Int) := by rw [eA]; push_cast; rfl
          have hP1 : P1 ≤ 1000000 := by
            rw [eP1]; exact Nat.le_trans (Nat.mul_le_mul (Nat.le_of_lt (Nat.lt_of_lt_of_le hlt hb1)) hb2) (by decide)
          have hP2 : P2 ≤ 1000000000 := by
            rw [eP2]; exact Nat.le_trans (Nat.mul_le_mul hP1 hb3) (by decide)
          have eA' : A = o * n * inner + k := by rw [eA, eP2, eP1]
          have HEA := Lib.hid eA'
          clear eP1 eP2 eA eA'
          go_wp2_with fail
          go_loopw [40] (fun oo wr => ∃ i' : Nat, i' ≤ n ∧ oo = .int .i64 i' ∧ (∃ F', RowF wr (w.heap.size + 2) G T F' ∧ DoneF r n inner o k i' F') ∧ St w wr kk b bn s i f c x) (fun oo _ => n - (intOf oo).toNat)
          case atStart => exact ⟨0, Nat.zero_le _, rfl, ⟨_, HROW.out, HD.out⟩, HST.out⟩
          case round =>
            clear HROW HD HST f1 f2 f3
            obtain ⟨i', hi, rfl, ⟨F', hrow, hdone⟩, hst⟩ := hrel
            have HROW := Lib.hid hrow
            have HD := Lib.hid hdone
            have HST := Lib.hid hst
            clear hrow hdone hst
            by_cases hlti : i' < n
            · obtain ⟨Q, eQ⟩ : ∃ Q, Q = i' * inner := ⟨_, rfl⟩
              obtain ⟨I, eI⟩ : ∃ I, I = A + Q := ⟨_, rfl⟩
              have hI : I < T := by rw [eI, HEA.out, eQ, HT.out]; exact idx_lt hlt hltk hlti
              have f4 : (i' : Int) * (inner : Int) = (Q : Int) := by rw [eQ]; push_cast; rfl
              have f5 : (A : Int) + (Q : Int) = (I : Int) := by rw [eI]; push_cast; rfl
              have hQ : Q ≤ 1000000 := by omega
              have hA : A ≤ 1000000 := by omega
              have eI' : I = o * n * inner + k + i' * inner := by rw [eI, HEA.out, eQ]
              have HEI := Lib.hid eI'
              have hup := HUP.out o k i' wr hlt hltk hlti (by rw [← HEA.out]; exact hA) HST.out.bel
              rw [← HEA.out, ← scanR_at hltk hlti, ← eI', ← HR.out] at hup
              have HUPI := Lib.hid hup
              obtain ⟨h0, h1, h2, h3, h4, h5, h6, h7⟩ := HST.out.box
              clear eQ eI eI' hup
              go_wp2_with fail
              refine HUPI.out.mono ?_
              rintro e w4 ⟨rfl, hb4⟩
              have HST4 := Lib.hid (HST.out.step hb4)
              have HROW4 := Lib.hid (HROW.out.below hb4)
              clear hb4 h0 h1 h2 h3 h4 h5 h6 h7 HST HROW HUPI
              cases hr : r I with
              | none =>
                have HBAD : Hid (∃ c, c < T ∧ r c = none) := ⟨_, hI, hr⟩
                clear hr
                obtain ⟨⟨h0, h1, h2, h3, h4, h5, h6, h7⟩, hz⟩ := boxed_of HST4.out.res
                go_wp2
                refine bodyPost_ret (v := .tuple #[vecV 0 vnil 0 vnil vnil vnil vnil vnil, .int .i64 24]) ?_ rfl (.inr ⟨HBAD.out, rfl, below_set8 HST4.out.bel (Nat.le_succ _) _ _ _ _ _ _ _ _⟩)
                exact ret_vec2 (fn := Tryz.f36) (p := 10) (u := 11) rfl _ _ (w.heap.size + 1) (by rfl) (set8_block HST4.out.res _ _ _ _ _ _ _ _)
              | some y =>
                have HRI := Lib.hid hr
                clear hr
                have hco := HROW4.out.cell hI
                have hfo := HROW4.out.frozen I
                have hstore := fun m => store_float hco hfo .f64 y m
                have HROW5 := Lib.hid (HROW4.out.put hI y)
                have HD5 := Lib.hid (HD.out.put HEI.out HRI.out)
                have HST5 := Lib.hid (HST4.out.put (j := I) HROW4.out.low.1 (.float .f64 y))
                go_wp2
                go_roundw
                case rel => exact ⟨i' + 1, by omega, by go_num, ⟨_, HROW5.out, HD5.out⟩, HST5.out⟩
                case measure => simp [intOf]; omega
            · obtain rfl : i' = n := by omega
              go_wp2
              go_roundw
              case rel => exact ⟨k + 1, by omega, by go_num, ⟨_, HROW.out, HD.out.nextK⟩, HST.out⟩
              case measure => simp [intOf]; omega
        · obtain rfl : k = inner := by omega
          go_wp2
          go_roundw
          case rel => exact ⟨o + 1, by omega, by go_num, ⟨_, HROW.out, HD.out.nextO⟩, HST.out⟩
          case measure => simp [intOf]; omega
    · obtain rfl : o = outer := by omega
      have HALL : Hid (∀ j, j < T → r j = some (F' j)) := by rw [HT.out]; exact HD.out.all
      have HALLN : Hid (∀ c, c < T → ∃ y, r c = some y) := fun c hc => ⟨_, HALL.out c hc⟩
      have HOWNN : Hid (Own1 wr (w.heap.size + 2) 47 (.slice (some ⟨G, 0, none⟩) T T) ((List.range T).map fun j => .float .f64 (getR r j))) := by
        have h := HROW.out
        unfold RowF at h
        have e : ((List.range T).map fun j => Value.float .f64 (F' j)) = (List.range T).map fun j => .float .f64 (getR r j) := by
          apply List.map_congr_left
          intro j hj
          unfold getR
          rw [HALL.out j (List.mem_range.1 hj)]; rfl
        rw [e] at h
        exact h
      have HTFO : Hid (∀ j, j < T → TF (getR r j)) := by
        intro j hj
        have hj2 := hj
        rw [HT.out] at hj2
        obtain ⟨o', k', i', h1, h2, h3, e⟩ := idx_surj hj2
        have hy := HALL.out j hj
        unfold getR
        rw [hy]
        rw [HR.out, e, scanR_at h2 h3, ← e] at hy
        refine stepsR_tf HP.out (n := i' + 1) (by omega) (fun i2 hi2 => HTF.out _ ?_) (i' + 1 - 1) (Nat.le_refl _) _ hy
        rw [HT.out]
        exact idx_lt h1 h2 (by omega)
      have HNUMS := Lib.hid (numbers_any (fun j => H j ∨ j = w.heap.size + 1) (.slice (some ⟨G, 0, none⟩) T T) T (getR r) wr (fun j e => by
        have h1 := HST.out.sz
        rcases e with e | e
        · have := HH.out j e; omega
        · omega) HOWNN.out.reads hbT HTFO.out)
      clear HALL HOWNN HNV HTF HUP HD HROW
      go_wp2_with fail
      refine HNUMS.out.mono ?_
      rintro e w5 ⟨k5, b5, bn5, s5, i5, f5, c5, x5, rfl, hk5, hb5⟩
      have HS5 := Lib.hid (HST.out.step hb5)
      have HK5 := Lib.hid hk5
      clear hb5 hk5
      have z5 : w.heap.size < w5.heap.size := HS5.out.box.lt
      have z5' : w.heap.size + 1 < w5.heap.size := HS5.out.sz
      have HKE := Lib.hid ((HK5.out.set8 (.inr rfl) (.int .i64 k5) (.slice b5.1 b5.2.1 b5.2.2) (.int .i64 bn5) (.slice s5.1 s5.2.1 s5.2.2) (.slice i5.1 i5.2.1 i5.2.2) (.slice f5.1 f5.2.1 f5.2.2) (.slice c5.1 c5.2.1 c5.2.2) (.slice x5.1 x5.2.1 x5.2.2)).sub (H' := H) fun _ _ e => .inl e)
      have HBE := Lib.hid (below_set8 HS5.out.bel (Nat.le_succ _) (.int .i64 k5) (.slice b5.1 b5.2.1 b5.2.2) (.int .i64 bn5) (.slice s5.1 s5.2.1 s5.2.2) (.slice i5.1 i5.2.1 i5.2.2) (.slice f5.1 f5.2.1 f5.2.2) (.slice c5.1 c5.2.1 c5.2.2) (.slice x5.1 x5.2.1 x5.2.2))
      have HRE := Lib.hid (set8_block HS5.out.res (.int .i64 k5) (.slice b5.1 b5.2.1 b5.2.2) (.int .i64 bn5) (.slice s5.1 s5.2.1 s5.2.2) (.slice i5.1 i5.2.1 i5.2.2) (.slice f5.1 f5.2.1 f5.2.2) (.slice c5.1 c5.2.1 c5.2.2) (.slice x5.1 x5.2.1 x5.2.2))
      obtain ⟨⟨h0, h1, h2, h3, h4, h5, h6, h7⟩, hz⟩ := boxed_of HS5.out.res
      go_wp2
      refine bodyPost_ret (v := .tuple #[vecW k5 b5 bn5 s5 i5 f5 c5 x5, .int .i64 0]) ?_ rfl (.inl ⟨HALLN.out, k5, b5, bn5, s5, i5, f5, c5, x5, rfl, HKE.out.step (bel1 _ _), bel_both HBE.out (bel1 _ _)⟩)
      exact ret_vec2 (fn := Tryz.f36) (p := 10) (u := 11) rfl _ _ (w.heap.size + 1) (by rfl) ((Below.heap_alloc _ _ _ (lt_of_block HRE.out)).trans HRE.out)
end Go.Proofs.YtdddmehchfnppaaGreatDoor
