/- Merged texts. The walk of fold.wholes where every step goes in whole numbers: the three loops. Conditions: as each theorem says. The walks of Text, Known, the reference's Known and Runes, and of Fold and Scan at what is not put together. Conditions: as each theorem says. The walks of fold.Fold where there is nothing to put together: no such function. Conditions: as each theorem says. The walk of fold.Fold at numbers in a store of whole ones, where every step goes in whole numbers. Conditions: as each theorem says. Whole numbers as floats: Tidy, Whole and Bits at them; a Vec of such floats, or of eight-bit numbers, as the walks ask for it. Conditions: as each theorem says. -/
import Derived.Test.YtdddmehchfnppaaGreatDoorMg06
import Derived.Test.YtdddmehchfnppaaGreatDoorMg04
import Derived.Deep.QuietTactic
import Derived.BigQuiet
import Derived.Test.YtdddmehchfnppaaGreatDoorMg05
import Derived.Test.YtdddmehchfnppaaGreatDoorMg01
namespace Go.Proofs.YtdddmehchfnppaaGreatDoor
open Go Go.RowKit Go.Proofs Fl

/-- a Vec and true are told, and what is read of the Vec -/
def Vec2R (H : Nat → Prop) (w : World) (R : Value → World → Prop) (e : Ending) (w' : World) : Prop :=
  ∃ (k : Int) (b : Sl) (bn : Int) (s i f c x : Sl), e = .returned (.tuple #[vecW k b bn s i f c x, .bool true]) ∧ Keeps H w' (R (vecW k b bn s i f c x)) ∧ Below w.heap.size w w'

theorem idx_lt {outer n inner o k j : Nat} (ho : o < outer) (hk : k < inner) (hj : j < n) : o * n * inner + k + j * inner < outer * n * inner := by
  have h1 : k + j * inner < n * inner := by
    have : (j + 1) * inner ≤ n * inner := Nat.mul_le_mul_right _ hj
    rw [Nat.add_mul] at this
    omega
  have h2 : (o + 1) * (n * inner) ≤ outer * (n * inner) := Nat.mul_le_mul_right _ ho
  rw [Nat.add_mul] at h2
  rw [Nat.mul_assoc, Nat.mul_assoc]
  omega

theorem bel_both' {w a b : World} (h : Below w.heap.size w a) (k : Below (w.heap.size + 1) a b) : Below w.heap.size w b := h.trans (k.mono (Nat.le_succ _))

set_option maxRecDepth 100000 in
set_option maxHeartbeats 4000000 in
theorem fwholes_done (H : Nat → Prop) (R : Value → World → Prop) (q : Int) (b o0 c T : Nat) (outer n inner : Nat) (L : Nat → Int) (X : Nat → Nat → Nat → Int) (w : World)
    (hT : T = outer * n * inner) (hn : 1 ≤ n) (hb1 : outer ≤ 1000) (hb2 : n ≤ 1000) (hb3 : inner ≤ 1000) (hbT : outer * n * inner ≤ 1000000) (hbN : outer * inner ≤ 1000000)
    (hc : ∀ i, i < outer * n * inner → w.cell? ⟨b, o0 + i, none⟩ = some (.int .i64 (L i)))
    (hX : ∀ o k, o < outer → k < inner → X o k (n - 1) = L (o * n * inner + k + (n - 1) * inner))
    (hw : ∀ o k j, o < outer → k < inner → j + 1 < n → ∀ W, Calls Tryz.prog 104 #[.int .i64 q, .int .i64 (L (o * n * inner + k + j * inner)), .int .i64 (X o k (j + 1))] W fun e w' => e = .returned (.tuple #[.int .i64 (X o k j), .bool true]) ∧ W = w')
    (hg : ∀ o k, o < outer → k < inner → Good (X o k 0))
    (hs : ∀ W u, Below w.heap.size w W → Own1 W (w.heap.size + 1) 2 u ((outS X inner (outer * inner)).map (.int .i64)) → Calls Tryz.prog 73 #[vecV 3 vnil 0 vnil u vnil vnil vnil] W (VecR (fun b => H b ∨ b = w.heap.size) W R)) :
    Calls Tryz.prog 56 #[.int .i64 q, .slice (some ⟨b, o0, none⟩) T c, .int .i64 (outer : Int), .int .i64 (n : Int), .int .i64 (inner : Int)] w (Vec2R H w R) := by
  have HT := Lib.hid hT
  have HC := Lib.hid hc
  have HX := Lib.hid hX
  have HW := Lib.hid hw
  have HG := Lib.hid (outS_good hg)
  have HS := Lib.hid hs
  obtain ⟨N, hN⟩ : ∃ N, N = outer * inner := ⟨_, rfl⟩
  have hNb : N ≤ 1000000 := by omega
  have hNi : (outer : Int) * (inner : Int) = (N : Int) := by rw [hN]; push_cast; rfl
  have hmk := make_cap N hNb
  have HN := Lib.hid hN
  have HBT := Lib.hid hbT
  clear hT hc hX hw hg hs hN hbN hbT
  have HO1 : Hid (Own1 ((w.alloc (.cells zcells 32)).alloc (.cells (madeCells #[.int .i64 0] N) 2)) (w.heap.size + 1) 2 (.slice (some ⟨w.heap.size + 1, 0, none⟩) 0 N) ((outS X inner (0 * inner)).map (.int .i64))) := by
    have h := World.ownsRow_made (base := w.heap.size + 1) (e := 2) (size := 1) (w.alloc (.cells zcells 32)) (madeCells #[.int .i64 0] N) N (by simp) (by unfold maxLen; omega) (by rw [size_madeCells]; omega)
    have e : (w.alloc (.cells zcells 32)).heap.size = w.heap.size + 1 := by simp
    rw [e] at h
    rw [Nat.zero_mul]
    exact h
  have HBM := Lib.hid (bel2 w (.cells zcells 32) (.cells (madeCells #[.int .i64 0] N) 2))
  have HKM := Lib.hid (block_up (bel1 (w.alloc (.cells zcells 32)) (.cells (madeCells #[.int .i64 0] N) 2)))
  go_enter Tryz.func56, Tryz.ntmps56
  go_wp2_with fail
  go_loopw [12, 27] (fun v oo wr => ∃ o : Nat, o ≤ outer ∧ oo = .int .i64 o ∧ Own1 wr (w.heap.size + 1) 2 v ((outS X inner (o * inner)).map (.int .i64)) ∧ Below w.heap.size w wr ∧ wr.heap[w.heap.size]? = some (.cells zcells 32)) (fun _ oo _ => outer - (intOf oo).toNat)
  case atStart => exact ⟨0, Nat.zero_le _, rfl, HO1.out, HBM.out, HKM.out⟩
  case round =>
    clear hmk hNi
    obtain ⟨o, ho, rfl, hown, hbl, hk⟩ := hrel
    have HOWN := Lib.hid hown
    have HBL := Lib.hid hbl
    have HK := Lib.hid hk
    clear hown hbl hk
    by_cases hlt : o < outer
    · have HOWN' := Lib.hid (show Own1 wr (w.heap.size + 1) 2 _ ((outS X inner (o * inner + 0)).map (.int .i64)) from HOWN.out)
      go_wp2_with fail
      go_loopw [12, 31] (fun v kk wr => ∃ k : Nat, k ≤ inner ∧ kk = .int .i64 k ∧ Own1 wr (w.heap.size + 1) 2 v ((outS X inner (o * inner + k)).map (.int .i64)) ∧ Below w.heap.size w wr ∧ wr.heap[w.heap.size]? = some (.cells zcells 32)) (fun _ kk _ => inner - (intOf kk).toNat)
      case atStart => exact ⟨0, Nat.zero_le _, rfl, HOWN'.out, HBL.out, HK.out⟩
      case round =>
        clear HOWN HOWN' HBL HK
        obtain ⟨k, hk, rfl, hown, hbl, hkk⟩ := hrel
        have HOWN := Lib.hid hown
        have HBL := Lib.hid hbl
        have HK := Lib.hid hkk
        clear hown hbl hkk
        by_cases hltk : k < inner
        · obtain ⟨P1, eP1⟩ : ∃ P1, P1 = o * n := ⟨_, rfl⟩
          obtain ⟨P2, eP2⟩ : ∃ P2, P2 = P1 * inner := ⟨_, rfl⟩
          obtain ⟨A, eA⟩ : ∃ A, A = P2 + k := ⟨_, rfl⟩
          obtain ⟨Q, eQ⟩ : ∃ Q, Q = (n - 1) * inner := ⟨_, rfl⟩
          obtain ⟨I, eI⟩ : ∃ I, I = A + Q := ⟨_, rfl⟩
          have hI : I < T := by rw [eI, eA, eP2, eP1, eQ, HT.out]; exact idx_lt hlt hltk (by omega)
          have HTB : T ≤ 1000000 := by rw [HT.out]; exact HBT.out
          have f1 : (o : Int) * (n : Int) = (P1 : Int) := by rw [eP1]; push_cast; rfl
          have f2 : (P1 : Int) * (inner : Int) = (P2 : Int) := by rw [eP2]; push_cast; rfl
          have f3 : (P2 : Int) + (k : Int) = (A : Int) := by rw [eA]; push_cast; rfl
          have f4 : ((n : Int) - 1) * (inner : Int) = (Q : Int) := by rw [eQ, Int.natCast_mul, Int.natCast_sub hn]; rfl
          have f5 : (A : Int) + (Q : Int) = (I : Int) := by rw [eI]; push_cast; rfl
          have hP1 : P1 ≤ 1000000 := by
            rw [eP1]; exact Nat.le_trans (Nat.mul_le_mul (Nat.le_of_lt (Nat.lt_of_lt_of_le hlt hb1)) hb2) (by decide)
          have hP2 : P2 ≤ 1000000 := by omega
          have hA : A ≤ 1000000 := by omega
          have hQ : Q ≤ 1000000 := by omega
          have eI' : I = o * n * inner + k + (n - 1) * inner := by rw [eI, eA, eP2, eP1, eQ]
          have eA' : A = o * n * inner + k := by rw [eA, eP2, eP1]
          have hcell := HC.out I (by rw [← HT.out]; exact hI)
          have HCI := Lib.hid (show wr.cell? ⟨b, o0 + I, none⟩ = some (.int .i64 (X o k (n - 1))) by rw [HBL.out.cell (cell_lt hcell), hcell, HX.out o k hlt hltk, ← eI'])
          have hci := HCI.out
          have HEA := Lib.hid eA'
          obtain ⟨x, hx⟩ : ∃ x, x = X o k (n - 1) := ⟨_, rfl⟩
          rw [← hx] at hci
          have HXE := Lib.hid hx
          clear hx
          clear eP1 eP2 eA eQ eI eI' eA' hcell
          go_wp2_with fail
          go_loop [16, 17] (fun xx ii => ∃ m : Nat, m ≤ n - 1 ∧ xx = .int .i64 (X o k m) ∧ ii = .int .i64 ((m : Int) - 1)) (fun _ ii => (intOf ii + 1).toNat)
          case atStart => exact ⟨n - 1, Nat.le_refl _, by rw [HXE.out], by congr 1; omega⟩
          case round =>
            clear hci HCI f1 f2 f3 f4 f5 hI
            obtain ⟨m, hm, rfl, rfl⟩ := hrel
            rcases m with _ | j
            · have e0 : ((0 : Nat) : Int) - 1 = -1 := rfl
              rw [e0]
              obtain ⟨x0, hx0⟩ : ∃ x0, x0 = X o k 0 := ⟨_, rfl⟩
              have HOS := Lib.hid (outS_succ X inner o k hltk)
              rw [← hx0] at HOS
              rw [← hx0]
              have hBw : w.heap.size + 1 ≤ wr.heap.size := (boxed_of HK.out).1.lt
              have hcnt : o * inner + k < outer * inner := by
                have : (o + 1) * inner ≤ outer * inner := Nat.mul_le_mul_right _ hlt
                rw [Nat.add_mul] at this
                omega
              have HFL : Hid ((((outS X inner (o * inner + k)).map (Value.int .i64)).length + 1) * 8 ≤ 140737488355328) := by
                rw [List.length_map, outS_len]; have := HN.out; show _ ≤ _; omega
              have HFL2 : Hid (((outS X inner (o * inner + k)).map (Value.int .i64)).length + 1 ≤ 140737488355328) := by
                rw [List.length_map, outS_len]; have := HN.out; show _ ≤ _; omega
              clear hx0 hcnt e0
              go_wp2_with (at_builtin; refine wpList_push1 rfl (.tmp 74) (.tmp 76) 28 2 rfl Tryz.underlying28 (.int .i64 0) 8 info_i64 rfl (w.heap.size + 1) _ ((outS X inner (o * inner + k)).map (Value.int .i64)) rfl HOWN.out (.int .i64 x0) rfl rfl HFL.out HFL2.out hBw ?_; intro v' w1 hv' hb' _ hs'; rw [HOS.out] at hv'; have HV := Lib.hid hv'; have HB' := Lib.hid (hb' wr (Below.refl _ _)); clear hb' hv' hs')
              go_roundw
              case rel => exact ⟨k + 1, by omega, by go_num, HV.out, bel_both' HBL.out HB'.out, by rw [HB'.out.block _ (Nat.lt_succ_self _)]; exact HK.out⟩
              case measure => simp [intOf]; omega
            · have ej : ((j + 1 : Nat) : Int) - 1 = (j : Int) := by omega
              rw [ej]
              obtain ⟨Q2, eQ2⟩ : ∃ Q2, Q2 = j * inner := ⟨_, rfl⟩
              obtain ⟨I2, eI2⟩ : ∃ I2, I2 = A + Q2 := ⟨_, rfl⟩
              have hI2 : I2 < T := by rw [eI2, HEA.out, eQ2, HT.out]; exact idx_lt hlt hltk (by omega)
              have f4 : (j : Int) * (inner : Int) = (Q2 : Int) := by rw [eQ2]; push_cast; rfl
              have f5 : (A : Int) + (Q2 : Int) = (I2 : Int) := by rw [eI2]; push_cast; rfl
              have hQ2 : Q2 ≤ 1000000 := by omega
              have hcell := HC.out I2 (by rw [← HT.out]; exact hI2)
              have hci : wr.cell? ⟨b, o0 + I2, none⟩ = some (.int .i64 (L I2)) := by rw [HBL.out.cell (cell_lt hcell), hcell]
              have HWJ := Lib.hid (HW.out o k j hlt hltk (by omega))
              rw [← eQ2, ← HEA.out, ← eI2] at HWJ
              have hj : j < 1000 := by omega
              have hjm : j ≤ n - 1 := by omega
              generalize L I2 = lx at *
              clear eQ2 eI2 hcell ej hm
              generalize X o k (j + 1) = xj at *
              go_wp2_with fail
              refine (HWJ.out _).mono ?_
              rintro e w' ⟨rfl, rfl⟩
              go_wp2
              go_round
              case rel => exact ⟨j, hjm, rfl, rfl⟩
              case measure => simp [intOf]
        · obtain rfl : k = inner := by omega
          have HOWN2 : Hid (Own1 wr (w.heap.size + 1) 2 u12 ((outS X k ((o + 1) * k)).map (.int .i64))) := by rw [Nat.add_mul, Nat.one_mul]; exact HOWN.out
          go_wp2
          go_roundw
          case rel => exact ⟨o + 1, by omega, by go_num, HOWN2.out, HBL.out, HK.out⟩
          case measure => simp [intOf]; omega
    · obtain rfl : o = outer := by omega
      have HI := Lib.hid (ints_any (l := outS X inner (o * inner)) HOWN.out.reads (by rw [outS_len]; have := HN.out; omega) HG.out)
      clear HW HX HC HG
      go_wp2_with fail
      refine HI.out.mono ?_
      rintro e w2 ⟨u, rfl, hou, hb2⟩
      have HB2 := Lib.hid (bel_both HBL.out hb2)
      have HK2 := Lib.hid (show w2.heap[w.heap.size]? = some (.cells zcells 32) by rw [hb2.block _ (boxed_of HK.out).1.lt]; exact HK.out)
      have HU := Lib.hid (hou.lower (show w.heap.size + 1 ≤ wr.heap.size from (boxed_of HK.out).1.lt))
      obtain ⟨ua, un, uc, hu⟩ : ∃ a n c, u = .slice a n c := by obtain ⟨a, c, e⟩ := hou.reads.len; exact ⟨a, _, c, e⟩
      subst hu
      clear hb2 hou
      have HB3 := Lib.hid (HB2.out.alloc HB2.out.size (.cells #[.int .i64 3, vnil, .int .i64 0, vnil, .slice ua un uc, vnil, vnil, vnil] 32))
      have HK3 := Lib.hid (show (w2.alloc (.cells #[.int .i64 3, vnil, .int .i64 0, vnil, .slice ua un uc, vnil, vnil, vnil] 32)).heap[w.heap.size]? = some (.cells zcells 32) by rw [Below.heap_alloc _ _ _ (boxed_of HK2.out).1.lt]; exact HK2.out)
      have HU3 := Lib.hid (HU.out.alloc (.cells #[.int .i64 3, vnil, .int .i64 0, vnil, .slice ua un uc, vnil, vnil, vnil] 32))
      have HS3 := Lib.hid (HS.out _ _ HB3.out HU3.out)
      go_wp2_with fail
      refine HS3.out.mono ?_
      rintro e w4 ⟨k4, b4, bn4, s4, i4, f4, c4, x4, rfl, hk4, hb4⟩
      have HB4 := Lib.hid (bel_both HB3.out hb4)
      have HK4 := Lib.hid (show w4.heap[w.heap.size]? = some (.cells zcells 32) by rw [hb4.block _ (boxed_of HK3.out).1.lt]; exact HK3.out)
      have HKE := Lib.hid hk4
      clear hb4 hk4
      obtain ⟨⟨h0, h1, h2, h3, h4, h5, h6, h7⟩, hz⟩ := boxed_of HK4.out
      go_wp2
      refine bodyPost_ret (v := .tuple #[vecW k4 b4 bn4 s4 i4 f4 c4 x4, .bool true]) ?_ rfl ⟨k4, b4, bn4, s4, i4, f4, c4, x4, rfl, (HKE.out.set8 (.inr rfl) _ _ _ _ _ _ _ _).sub (fun _ _ e => .inl e), below_set8 HB4.out (Nat.le_refl _) _ _ _ _ _ _ _ _⟩
      exact ret_vec2 (fn := Tryz.f56) (p := 10) (u := 11) rfl _ _ w.heap.size (by rfl) (set8_block HK4.out _ _ _ _ _ _ _ _)
end Go.Proofs.YtdddmehchfnppaaGreatDoor
namespace Go.Proofs.YtdddmehchfnppaaGreatDoor
open Go Go.RowKit Go.Proofs Fl

/-- is there such a function? -/
def knownB (f : Int) : Bool := decide ((1 ≤ f ∧ f ≤ 8) ∨ (11 ≤ f ∧ f ≤ 16) ∨ (21 ≤ f ∧ f ≤ 24))

set_option maxHeartbeats 1000000 in
theorem known_any (f : Int) (w : World) : Calls Tryz.prog 19 #[.int .i64 f] w fun e w' => e = .returned (.bool (knownB f)) ∧ w = w' := by
  go_enter Tryz.func19, Tryz.ntmps19
  go_wp2
  all_goals go_ret
  all_goals refine ⟨?_, rfl⟩
  all_goals unfold knownB
  all_goals refine congrArg (fun b => Ending.returned (.bool b)) ?_
  all_goals rw [Bool.eq_iff_iff]
  all_goals first | (simp; done) | (simp; omega)

set_option maxHeartbeats 1000000 in
theorem rknown_any (f : Int) (w : World) : Calls Tryz.prog 20 #[.int .i64 f] w fun e w' => e = .returned (.bool (knownB f)) ∧ w = w' := by
  go_enter Tryz.func20, Tryz.ntmps20
  go_wp2
  all_goals go_ret
  all_goals refine ⟨?_, rfl⟩
  all_goals unfold knownB
  all_goals refine congrArg (fun b => Ending.returned (.bool b)) ?_
  all_goals rw [Bool.eq_iff_iff]
  all_goals first | (simp; done) | (simp; omega)

theorem cells_of {w : World} {v : Value} {l : List Int} (h : Reads1 w v (l.map (.int .i32))) : (∃ a c, v = .slice a 0 c ∧ l = []) ∨ ∃ b o c, v = .slice (some ⟨b, o, none⟩) l.length c ∧ ∀ i (h : i < l.length), w.cell? ⟨b, o + i, none⟩ = some (.int .i32 l[i]) := by
  rcases h.at with ⟨a, c, e, h0⟩ | ⟨b, o, c, e, hc⟩
  · exact .inl ⟨a, c, e, List.map_eq_nil_iff.1 h0⟩
  · refine .inr ⟨b, o, c, by rw [e, List.length_map], fun i hi => ?_⟩
    rw [hc i (by simpa using hi)]; simp

set_option maxHeartbeats 1000000 in
theorem text_any (b : Value) (bn : Int) (s i f x : Value) {w : World} {v : Value} {l : List Int} (h : Reads1 w v (l.map (.int .i32))) (hl : l.length ≤ 1000000) :
    Calls Tryz.prog 135 #[vecV 5 b bn s i f v x] w fun e w' => ∃ u, e = .returned u ∧ Own1 w' w.heap.size 21 u (l.map (.int .i32)) ∧ Below w.heap.size w w' := by
  have HC := Lib.hid (fun w2 (hb : Below w.heap.size w w2) => clR_any (h.below hb) (by rw [List.length_map]; omega) (by intro u hu; obtain ⟨z, _, rfl⟩ := List.mem_map.1 hu; rfl))
  clear h
  go_enter Tryz.func135, Tryz.ntmps135
  go_wp2_with fail
  refine (HC.out _ (bel1 _ _)).mono ?_
  rintro e w1 ⟨u, rfl, ho, hb1⟩
  have HB1 := Lib.hid ((bel1 w _).trans (hb1.mono (bel1 w _).size))
  have HO := Lib.hid ho
  clear hb1 ho
  go_wp2
  go_ret
  exact ⟨_, rfl, HO.out.lower (by simp), HB1.out⟩

theorem drewN1' {B : Nat} {a w : World} (h : Below B a w) (k : Nat) : Below B a (w.drewN k) := ⟨h.os, h.tape, h.output, h.size, h.block⟩
theorem getD_of' {l : List Int} {i : Nat} (h : i < l.length) : l.getD i 0 = l[i] := by simp [List.getD, h]
theorem runes_opn {w : World} {v : Value} {l : List Int} (h : Runes w v l) : ∃ A cc n, v = .slice A n cc ∧ n = l.length ∧
    ∀ i, i < l.length → ∃ b o, A = some ⟨b, o, none⟩ ∧ ∀ w1, Below w.heap.size w w1 → w1.cell? ⟨b, o + i, none⟩ = some (.int .i32 (l.getD i 0)) := by
  rcases h with ⟨a, c, rfl, rfl⟩ | ⟨b, o, n, c, rfl, hn, hc⟩
  · exact ⟨a, c, 0, rfl, rfl, fun i hi => by simp at hi⟩
  · refine ⟨_, c, n, rfl, hn, fun i hi => ⟨b, o, rfl, fun w1 hb => ?_⟩⟩
    have := hc i hi
    rw [hb.cell (cell_lt this), this]
    simp [List.getD, hi]

theorem take_succ_eq1 {sa sb : List Int} {k : Nat} (ha : k < sa.length) (hb : k < sb.length) (h : sa.take k = sb.take k) (he : sa.getD k 0 = sb.getD k 0) : sa.take (k + 1) = sb.take (k + 1) := by
  rw [List.take_succ_eq_append_getElem ha, List.take_succ_eq_append_getElem hb, h]
  rw [getD_of' ha, getD_of' hb] at he
  rw [he]

theorem reads_opn {w : World} {v : Value} {n : Nat} {y : Nat → Value} (h : Reads1 w v ((List.range n).map y)) : ∃ A cc, v = .slice A n cc ∧
    ∀ i, i < n → ∃ b o, A = some ⟨b, o, none⟩ ∧ ∀ w1, Below w.heap.size w w1 → w1.cell? ⟨b, o + i, none⟩ = some (y i) := by
  rcases h with ⟨a, c, rfl, h0⟩ | ⟨b, o, m, c, rfl, hn, hc⟩
  · have hn : n = 0 := by simpa using h0
    subst hn
    exact ⟨a, c, rfl, fun i hi => by omega⟩
  · have hm : m = n := by simpa using hn
    subst hm
    refine ⟨_, c, rfl, fun i hi => ⟨b, o, rfl, fun w1 hb => ?_⟩⟩
    have := hc i (by simpa using hi)
    rw [hb.cell (cell_lt this), this]
    simp

set_option maxRecDepth 100000 in
set_option maxHeartbeats 1600000 in
/-- two rows of the same numbers -/
theorem same_walk (va vb : Value) (n : Nat) (y : Nat → Nat) (w : World) (ha : Reads1 w va ((List.range n).map fun j => .float .f64 (y j))) (hb : Reads1 w vb ((List.range n).map fun j => .float .f64 (y j))) (hn : n ≤ 1000000)
    (hbits : ∀ i, i < n → ∀ W, Calls Tryz.prog 18 #[.float .f64 (y i), .float .f64 (y i)] W fun e w' => e = .returned (.bool true) ∧ W = w') :
    Calls Tryz.prog 12 #[va, vb] w fun e w' => e = .returned (.bool true) ∧ Below w.heap.size w w' := by
  obtain ⟨A, cc, rfl, hcell⟩ := reads_opn ha
  obtain ⟨A2, cc2, rfl, hcell2⟩ := reads_opn hb
  have HC := Lib.hid hcell
  have HC2 := Lib.hid hcell2
  have HBT := Lib.hid hbits
  have hne : ((n : Int) != (n : Int)) = false := by simp
  clear hcell hcell2 ha hb hbits
  go_enter Tryz.func12, Tryz.ntmps12
  go_wp2
  go_loopw [5] (fun i wr => ∃ k : Nat, k ≤ n ∧ i = .int .i64 (k : Int) ∧ Below w.heap.size w wr) (fun i _ => n - (intOf i).toNat)
  case atStart => exact ⟨0, Nat.zero_le _, rfl, Below.refl _ _⟩
  case round =>
    obtain ⟨k, hk, rfl, hbl⟩ := hrel
    have HBL := Lib.hid hbl
    by_cases hlt : k < n
    · obtain ⟨b, o, rfl, hce⟩ := HC.out k hlt
      obtain ⟨b', o', rfl, hce'⟩ := HC2.out k hlt
      have c1 := hce _ hbl
      have c2 := hce' _ hbl
      have HT : Hid (∀ W, Calls Tryz.prog 18 #[.float .f64 (y k), .float .f64 (y k)] W fun e w' => e = .returned (.bool true) ∧ ∃ m, w' = W.drewN m) := fun W => (HBT.out k hlt W).mono fun e w' ⟨h1, h2⟩ => ⟨h1, 0, by rw [← h2]; rfl⟩
      have hlt2 : (k : Int) < (n : Int) := by omega
      clear hbl hce hce'
      go_wp2
      go_quiet (first | (go_at_call 18; refine Calls.quiet_of (HT.out _)))
      go_wp2
      go_roundw
      case rel => exact ⟨k + 1, by omega, by go_num, drewN1' HBL.out _⟩
      case measure => simp [intOf]; omega
    · clear hbl
      go_wp2
      go_ret
      exact ⟨rfl, HBL.out⟩
end Go.Proofs.YtdddmehchfnppaaGreatDoor
namespace Go.Proofs.YtdddmehchfnppaaGreatDoor
open Go Go.RowKit Go.Proofs Fl

set_option maxRecDepth 100000 in
set_option maxHeartbeats 1000000 in
theorem fold_unknown (q : Int) (hq : knownB q = false) (k : Int) (b : Value) (bn : Int) (s i f c x : Value) (o n r : Int) (w : World) :
    Calls Tryz.prog 27 #[.int .i64 q, vecV k b bn s i f c x, .int .i64 o, .int .i64 n, .int .i64 r] w fun e w' => e = .returned (.tuple #[vecV 0 vnil 0 vnil vnil vnil vnil vnil, .int .i64 1]) ∧ Below w.heap.size w w' := by
  have HK := Lib.hid (fun W => hq ▸ known_any q W)
  have HS := Lib.hid (St.new w k b bn s i f c x)
  clear hq
  go_enter Tryz.func27, Tryz.ntmps27
  go_wp2_with fail
  refine (HK.out _).mono ?_
  rintro e w1 ⟨rfl, hw⟩
  rw [hw] at HS
  clear hw
  obtain ⟨⟨h0, h1, h2, h3, h4, h5, h6, h7⟩, hz⟩ := boxed_of HS.out.res
  go_wp2
  refine bodyPost_ret (v := .tuple #[vecV 0 vnil 0 vnil vnil vnil vnil vnil, .int .i64 1]) ?_ rfl ⟨rfl, below_set8 HS.out.bel (Nat.le_succ _) _ _ _ _ _ _ _ _⟩
  exact ret_vec2 (fn := Tryz.f27) (p := 10) (u := 11) rfl _ _ (w.heap.size + 1) (by rfl) (set8_block HS.out.res _ _ _ _ _ _ _ _)

set_option maxRecDepth 100000 in
set_option maxHeartbeats 1000000 in
theorem fold_chars_dom (q : Int) (hq : knownB q = true) (b : Value) (bn : Int) (s i f c x : Value) (o n r : Int) (ho : 0 ≤ o) (hn : 0 ≤ n) (hr : 0 ≤ r) (h1 : n ≠ 1) (w : World) :
    Calls Tryz.prog 27 #[.int .i64 q, vecV 5 b bn s i f c x, .int .i64 o, .int .i64 n, .int .i64 r] w fun e w' => e = .returned (.tuple #[vecV 0 vnil 0 vnil vnil vnil vnil vnil, .int .i64 24]) ∧ Below w.heap.size w w' := by
  have HK := Lib.hid (fun W => hq ▸ known_any q W)
  have HS := Lib.hid (St.new w 5 b bn s i f c x)
  have HC := Lib.hid (fun W => class_5 b bn s i f c x W)
  have o1 : ¬ o < 0 := by omega
  have n1 : ¬ n < 0 := by omega
  have r1 : ¬ r < 0 := by omega
  have n2 : (n != 1) = true := by simpa using h1
  clear hq ho hn hr
  go_enter Tryz.func27, Tryz.ntmps27
  go_wp2_with fail
  refine (HK.out _).mono ?_
  rintro e w1 ⟨rfl, hw⟩
  rw [hw] at HS
  clear hw
  obtain ⟨h0, h1, h2, h3, h4, h5, h6, h7⟩ := HS.out.box
  go_wp2_with fail
  refine (HC.out _).mono ?_
  rintro e w2 ⟨rfl, hb2⟩
  have HS2 := Lib.hid (HS.out.step hb2)
  clear hb2 h0 h1 h2 h3 h4 h5 h6 h7 HS
  have HSE := HS2
  obtain ⟨⟨h0, h1, h2, h3, h4, h5, h6, h7⟩, hz⟩ := boxed_of HSE.out.res
  go_wp2
  refine bodyPost_ret (v := .tuple #[vecV 0 vnil 0 vnil vnil vnil vnil vnil, .int .i64 24]) ?_ rfl ⟨rfl, below_set8 HSE.out.bel (Nat.le_succ _) _ _ _ _ _ _ _ _⟩
  exact ret_vec2 (fn := Tryz.f27) (p := 10) (u := 11) rfl _ _ (w.heap.size + 1) (by rfl) (set8_block HSE.out.res _ _ _ _ _ _ _ _)

set_option maxRecDepth 100000 in
set_option maxHeartbeats 1000000 in
theorem fold_boxes_dom (q : Int) (hq : knownB q = true) (b : Value) (bn : Int) (s i f c x : Value) (o n r : Int) (ho : 0 ≤ o) (hn : 0 ≤ n) (hr : 0 ≤ r) (h1 : n = 1) (w : World) :
    Calls Tryz.prog 27 #[.int .i64 q, vecV 6 b bn s i f c x, .int .i64 o, .int .i64 n, .int .i64 r] w fun e w' => e = .returned (.tuple #[vecV 0 vnil 0 vnil vnil vnil vnil vnil, .int .i64 24]) ∧ Below w.heap.size w w' := by
  have HK := Lib.hid (fun W => hq ▸ known_any q W)
  have HS := Lib.hid (St.new w 6 b bn s i f c x)
  have HC := Lib.hid (fun W => class_6 b bn s i f c x W)
  have o1 : ¬ o < 0 := by omega
  have r1 : ¬ r < 0 := by omega
  subst h1
  clear hq ho hn hr
  go_enter Tryz.func27, Tryz.ntmps27
  go_wp2_with fail
  refine (HK.out _).mono ?_
  rintro e w1 ⟨rfl, hw⟩
  rw [hw] at HS
  clear hw
  obtain ⟨h0, h1, h2, h3, h4, h5, h6, h7⟩ := HS.out.box
  go_wp2_with fail
  refine (HC.out _).mono ?_
  rintro e w2 ⟨rfl, hb2⟩
  have HS2 := Lib.hid (HS.out.step hb2)
  clear hb2 h0 h1 h2 h3 h4 h5 h6 h7 HS
  obtain ⟨h0, h1, h2, h3, h4, h5, h6, h7⟩ := HS2.out.box
  go_wp2_with fail
  refine (HC.out _).mono ?_
  rintro e w3 ⟨rfl, hb3⟩
  have HSE := Lib.hid (HS2.out.step hb3)
  clear hb3 h0 h1 h2 h3 h4 h5 h6 h7 HS2
  obtain ⟨⟨h0, h1, h2, h3, h4, h5, h6, h7⟩, hz⟩ := boxed_of HSE.out.res
  go_wp2
  refine bodyPost_ret (v := .tuple #[vecV 0 vnil 0 vnil vnil vnil vnil vnil, .int .i64 24]) ?_ rfl ⟨rfl, below_set8 HSE.out.bel (Nat.le_succ _) _ _ _ _ _ _ _ _⟩
  exact ret_vec2 (fn := Tryz.f27) (p := 10) (u := 11) rfl _ _ (w.heap.size + 1) (by rfl) (set8_block HSE.out.res _ _ _ _ _ _ _ _)


set_option maxRecDepth 100000 in
set_option maxHeartbeats 1000000 in
theorem fold_chars_one (q : Int) (hq : knownB q = true) (b : Value) (bn : Int) (s i f x : Value) (p : Option Addr) (m d : Nat) (o r : Int) (ho : 0 ≤ o) (hr : 0 ≤ r) (hb : b = vnil) (hs : s = vnil) (hi : i = vnil) (hf : f = vnil) (hx : x = vnil) (w : World) :
    Calls Tryz.prog 27 #[.int .i64 q, vecV 5 b bn s i f (.slice p m d) x, .int .i64 o, .int .i64 1, .int .i64 r] w fun e w' => e = .returned (.tuple #[vecV 5 b bn s i f (.slice p m d) x, .int .i64 0]) ∧ Below w.heap.size w w' := by
  subst hb hs hi hf hx
  have HK := Lib.hid (fun W => hq ▸ known_any q W)
  have HS := Lib.hid (St.new w 5 vnil bn vnil vnil vnil (.slice p m d) vnil)
  have HC := Lib.hid (fun W => class_5 vnil bn vnil vnil vnil (.slice p m d) vnil W)
  have o1 : ¬ o < 0 := by omega
  have r1 : ¬ r < 0 := by omega
  clear hq ho hr
  go_enter Tryz.func27, Tryz.ntmps27
  go_wp2_with fail
  refine (HK.out _).mono ?_
  rintro e w1 ⟨rfl, hw⟩
  rw [hw] at HS
  clear hw
  obtain ⟨h0, h1, h2, h3, h4, h5, h6, h7⟩ := HS.out.box
  go_wp2_with fail
  refine (HC.out _).mono ?_
  rintro e w2 ⟨rfl, hb2⟩
  have HS2 := Lib.hid (HS.out.step hb2)
  clear hb2 h0 h1 h2 h3 h4 h5 h6 h7 HS
  obtain ⟨h0, h1, h2, h3, h4, h5, h6, h7⟩ := HS2.out.box
  go_wp2_with fail
  refine (HC.out _).mono ?_
  rintro e w3 ⟨rfl, hb3⟩
  have HSE := Lib.hid (HS2.out.step hb3)
  clear hb3 h0 h1 h2 h3 h4 h5 h6 h7 HS2
  obtain ⟨h0, h1, h2, h3, h4, h5, h6, h7⟩ := HSE.out.box
  obtain ⟨⟨g0, g1, g2, g3, g4, g5, g6, g7⟩, hz⟩ := boxed_of HSE.out.res
  go_wp2
  refine bodyPost_ret (v := .tuple #[vecV 5 vnil bn vnil vnil vnil (.slice p m d) vnil, .int .i64 0]) ?_ rfl ⟨rfl, below_set8 HSE.out.bel (Nat.le_succ _) _ _ _ _ _ _ _ _⟩
  exact ret_vec2 (fn := Tryz.f27) (p := 10) (u := 11) rfl _ _ (w.heap.size + 1) (by rfl) (set8_block HSE.out.res _ _ _ _ _ _ _ _)
end Go.Proofs.YtdddmehchfnppaaGreatDoor
namespace Go.Proofs.YtdddmehchfnppaaGreatDoor
open Go Go.RowKit Go.Proofs Fl

theorem bits_size : (Tryz.prog.info? 26).map (·.size) = some 2 := by kernel_rfl
theorem ret_bits2 {fn : Func} {p u : Tmp} (h : fn.results = #[.cell p 26, .tmp u]) (tmps : Array Value) (w : World) (G : Nat) {e : TypeId} {a0 a1 : Value}
    (hp : tmps.getD p undef = .pointer (some ⟨G, 0, none⟩)) (hg : w.heap[G]? = some (.cells #[a0, a1] e)) :
    (results fn tmps).run Tryz.prog w = .ok (.tuple #[.agg #[a0, a1], tmps.getD u undef]) w := by
  rw [results_cell_tmp h, hp]
  have := run_loadVar_row (P := Tryz.prog) w G e 26 _ (0, 0) _ hg Tryz.underlying26 rfl bits_size
  simp [asAddr, Result.andThen, this]

set_option maxHeartbeats 400000 in
theorem packed_no (k : Int) (hk : k ≠ 1) (b : Value) (bn : Int) (s i f c x : Value) (w : World) :
    Calls Tryz.prog 32 #[vecV k b bn s i f c x] w fun e w' => e = .returned (.tuple #[.agg #[vnil, .int .i64 0], .bool false]) ∧ Below w.heap.size w w' := by
  have hk1 : (k != 1) = true := by simpa using hk
  go_enter Tryz.func32, Tryz.ntmps32
  go_wp2
  refine bodyPost_ret (v := .tuple #[.agg #[vnil, .int .i64 0], .bool false]) ?_ rfl ⟨rfl, bel2 _ _ _⟩
  exact ret_bits2 (fn := Tryz.f32) (p := 2) (u := 3) rfl _ _ (w.heap.size + 1) (by rfl) (by have h := heap_alloc_new (w.alloc (.cells #[.int .i64 k, b, .int .i64 bn, s, i, f, c, x] 32)) (.cells #[.slice none 0 0, .int .i64 0] 26); simpa using h)

/-- a Vec and OK are told, and what is read of the Vec -/
def VecOk (H : Nat → Prop) (w : World) (R : Value → World → Prop) (e : Ending) (w' : World) : Prop :=
  ∃ (k : Int) (b : Sl) (bn : Int) (s i f c x : Sl), e = .returned (.tuple #[vecW k b bn s i f c x, .int .i64 0]) ∧ Keeps H w' (R (vecW k b bn s i f c x)) ∧ Below w.heap.size w w'
/-- a slice and true are told -/
def SlTrue (P : World → Value → Prop) (W : World) (e : Ending) (w' : World) : Prop := ∃ a n c, e = .returned (.tuple #[.slice a n c, .bool true]) ∧ P w' (.slice a n c) ∧ Below W.heap.size W w'

set_option maxRecDepth 100000 in
set_option maxHeartbeats 400000 in
theorem fold_wholes (H : Nat → Prop) (R : Value → World → Prop) (P : World → Value → Prop) (q : Int) (hq : knownB q = true) (k : Int) (b : Value) (bn : Int) (s i f c x : Value) (o n r : Int) (ho : 0 ≤ o) (hn : 2 ≤ n) (hr : 0 ≤ r) (w : World)
    (hcl : ∀ W, Calls Tryz.prog 31 #[vecV k b bn s i f c x] W fun e w' => e = .returned (.int .i64 0) ∧ Below W.heap.size W w')
    (hk : k ≠ 1)
    (hP : ∀ W W' v, P W v → Below W.heap.size W W' → P W' v)
    (hwh : ∀ W, Below w.heap.size w W → Calls Tryz.prog 34 #[vecV k b bn s i f c x] W (SlTrue P W))
    (hfw : ∀ W v, Below w.heap.size w W → P W v → Calls Tryz.prog 56 #[.int .i64 q, v, .int .i64 o, .int .i64 n, .int .i64 r] W (Vec2R (Hole H w W) W R)) :
    Calls Tryz.prog 27 #[.int .i64 q, vecV k b bn s i f c x, .int .i64 o, .int .i64 n, .int .i64 r] w (VecOk H w R) := by
  have HK := Lib.hid (fun W => hq ▸ known_any q W)
  have HS := Lib.hid (St.new w k b bn s i f c x)
  have HC := Lib.hid hcl
  have HPK := Lib.hid (fun W => packed_no k hk b bn s i f c x W)
  have HP := Lib.hid hP
  have HWH := Lib.hid hwh
  have HFW := Lib.hid hfw
  have o1 : ¬ o < 0 := by omega
  have n1 : ¬ n < 0 := by omega
  have r1 : ¬ r < 0 := by omega
  have e0 : (n == 1) = false := by simp; omega
  have e1 : (n == 0) = false := by simp; omega
  clear hq ho hn hr hcl hk hP hwh hfw
  go_enter Tryz.func27, Tryz.ntmps27
  go_wp2_with fail
  refine (HK.out _).mono ?_
  rintro e w1 ⟨rfl, hw⟩
  rw [hw] at HS
  clear hw
  obtain ⟨h0, h1, h2, h3, h4, h5, h6, h7⟩ := HS.out.box
  go_wp2_with fail
  refine (HC.out _).mono ?_
  rintro e w2 ⟨rfl, hb2⟩
  have HS2 := Lib.hid (HS.out.step hb2)
  clear hb2 h0 h1 h2 h3 h4 h5 h6 h7 HS
  obtain ⟨h0, h1, h2, h3, h4, h5, h6, h7⟩ := HS2.out.box
  go_wp2_with fail
  refine (HPK.out _).mono ?_
  rintro e w3 ⟨rfl, hb3⟩
  have HS3 := Lib.hid (HS2.out.step hb3)
  clear hb3 h0 h1 h2 h3 h4 h5 h6 h7 HS2
  obtain ⟨h0, h1, h2, h3, h4, h5, h6, h7⟩ := HS3.out.box
  have z3 : w.heap.size < w3.heap.size := HS3.out.box.lt
  have z3' : w.heap.size + 1 < w3.heap.size := HS3.out.sz
  have HS3' := Lib.hid (HS3.out.step (bel1 w3 (.cells #[vnil, .int .i64 0] 26)))
  have HWH3 := Lib.hid (HWH.out _ HS3'.out.bel)
  go_wp2_with fail
  refine HWH3.out.mono ?_
  rintro e w4 ⟨a4, n4, c4, rfl, hp4, hb4⟩
  have HS4 := Lib.hid (HS3'.out.step hb4)
  have HFW4 := Lib.hid (HFW.out _ _ HS4.out.bel hp4)
  clear hb4 hp4 h0 h1 h2 h3 h4 h5 h6 h7 HS3 HS3'
  go_wp2_with fail
  refine HFW4.out.mono ?_
  rintro e w5 ⟨k5, b5, bn5, s5, i5, f5, c5, x5, rfl, hk5, hb5⟩
  have HS5 := Lib.hid (HS4.out.step hb5)
  have HK5 := Lib.hid (hk5.sub (H' := fun j => H j ∨ j = w.heap.size + 1) fun j _ e => e.imp id fun e => by have := HS4.out.sz; omega)
  clear hb5 hk5 z3 z3'
  have z5 : w.heap.size < w5.heap.size := HS5.out.box.lt
  have z5' : w.heap.size + 1 < w5.heap.size := HS5.out.sz
  have HKE := Lib.hid ((HK5.out.set8 (.inr rfl) (.int .i64 k5) (.slice b5.1 b5.2.1 b5.2.2) (.int .i64 bn5) (.slice s5.1 s5.2.1 s5.2.2) (.slice i5.1 i5.2.1 i5.2.2) (.slice f5.1 f5.2.1 f5.2.2) (.slice c5.1 c5.2.1 c5.2.2) (.slice x5.1 x5.2.1 x5.2.2)).sub (H' := H) fun _ _ e => .inl e)
  have HBE := Lib.hid (below_set8 HS5.out.bel (Nat.le_succ _) (.int .i64 k5) (.slice b5.1 b5.2.1 b5.2.2) (.int .i64 bn5) (.slice s5.1 s5.2.1 s5.2.2) (.slice i5.1 i5.2.1 i5.2.2) (.slice f5.1 f5.2.1 f5.2.2) (.slice c5.1 c5.2.1 c5.2.2) (.slice x5.1 x5.2.1 x5.2.2))
  have HRE := Lib.hid (set8_block HS5.out.res (.int .i64 k5) (.slice b5.1 b5.2.1 b5.2.2) (.int .i64 bn5) (.slice s5.1 s5.2.1 s5.2.2) (.slice i5.1 i5.2.1 i5.2.2) (.slice f5.1 f5.2.1 f5.2.2) (.slice c5.1 c5.2.1 c5.2.2) (.slice x5.1 x5.2.1 x5.2.2))
  obtain ⟨⟨h0, h1, h2, h3, h4, h5, h6, h7⟩, hz⟩ := boxed_of HS5.out.res
  go_wp2
  refine bodyPost_ret (v := .tuple #[vecW k5 b5 bn5 s5 i5 f5 c5 x5, .int .i64 0]) ?_ rfl ⟨k5, b5, bn5, s5, i5, f5, c5, x5, rfl, HKE.out.step (bel1 _ _), bel_both HBE.out (bel1 _ _)⟩
  exact ret_vec2 (fn := Tryz.f27) (p := 10) (u := 11) rfl _ _ (w.heap.size + 1) (by rfl) ((Below.heap_alloc _ _ _ (lt_of_block HRE.out)).trans HRE.out)
end Go.Proofs.YtdddmehchfnppaaGreatDoor
namespace Go.Proofs.YtdddmehchfnppaaGreatDoor
open Go Go.RowKit Go.Proofs Fl

theorem natAbs_good {n : Int} (h : Good n) : n.natAbs ≤ 9007199254740992 := by obtain ⟨h1, h2⟩ := h; omega
theorem fi_zero : fi 0 = 0 := by decide
theorem tid_fi (n : Int) (h : Good n) : tid (decide (n < 0)) (n.natAbs * 2^K) = fi n := by
  unfold tid
  split
  · rename_i h0
    have : n.natAbs = 0 := by
      rcases Nat.mul_eq_zero.1 h0 with e | e
      · exact e
      · exact absurd e (Nat.ne_of_gt (Nat.two_pow_pos K))
    have : n = 0 := by omega
    rw [this, fi_zero]
  · exact (fi_W n (natAbs_good h)).symm
theorem tidy_fi (n : Int) (h : Good n) (w : World) : Calls Tryz.prog 60 #[.float .f64 (fi n)] w fun e w' => e = .returned (.tuple #[.float .f64 (fi n), .bool true]) ∧ w = w' := by
  have := ntidy_num (decide (n < 0)) (rep_fi n (natAbs_good h)) w
  rw [tid_fi n h, ← fi_W n (natAbs_good h)] at this
  exact this
theorem sg_dec_natAbs (n : Int) : sg (decide (n < 0)) n.natAbs = n := by
  unfold sg
  by_cases h : n < 0
  · simp [h]; omega
  · simp [h]; omega
theorem nwhole_fi (n : Int) (h : Good n) (w : World) : Calls Tryz.prog 77 #[.float .f64 (fi n)] w fun e w' => e = .returned (.tuple #[.int .i64 n, .bool true]) ∧ w = w' := by
  have := nwhole_yes (decide (n < 0)) n.natAbs (natAbs_good h) w
  rw [sg_dec_natAbs, ← fi_W n (natAbs_good h)] at this
  exact this

theorem inf_div' (s : Bool) : floatBits .quo .f64 4607182418800017408 (W s 0) = some (infw s) := by cases s <;> decide +kernel
theorem fo_refl' (s : Bool) {Z : Nat} (hz : Rep Z) : FloatKind.f64.format.order (W s Z) (W s Z) = some .eq := by
  have := order_W s s hz hz
  rw [cmp_eq] at this
  exact this
set_option maxHeartbeats 400000 in
theorem bits_same' (s : Bool) {Z : Nat} (hz : Rep Z) (w : World) :
    Calls Tryz.prog 18 #[.float .f64 (W s Z), .float .f64 (W s Z)] w fun e w' => e = .returned (.bool true) ∧ w = w' := by
  have h1 := fo_refl' s hz
  have h2 := fo_eq s false hz rep_zero
  rw [W_zero, sg_zero] at h2
  by_cases h0 : Z = 0
  · subst h0
    rw [sg_zero, decide_eq_true rfl] at h2
    have h2' : FloatKind.f64.format.order (W s 0) 0 = some .eq := by simpa using h2
    have h3 := fo_infinf s
    have h4 := fun w => run_float_arith (P := Tryz.prog) w .quo 47 .f64 _ _ _ (inf_div' s)
    clear hz h2
    generalize W s 0 = b at *
    go_enter Tryz.func18, Tryz.ntmps18
    go_wp2
    go_ret
    exact ⟨rfl, rfl⟩
  · rw [decide_eq_false (by rw [sg_eq_zero]; exact h0)] at h2
    have h2' := beq_eq_false_iff_ne.1 h2
    have h2n : (FloatKind.f64.format.order (W s Z) 0 != some .eq) = true := by rw [bne, h2]; rfl
    clear hz h0
    generalize W s Z = b at *
    go_enter Tryz.func18, Tryz.ntmps18
    go_wp2
    go_ret
    exact ⟨rfl, rfl⟩
theorem bits_fi (n : Int) (h : Good n) (w : World) : Calls Tryz.prog 18 #[.float .f64 (fi n), .float .f64 (fi n)] w fun e w' => e = .returned (.bool true) ∧ w = w' := by
  have := bits_same' (decide (n < 0)) (rep_fi n (natAbs_good h)) w
  rw [← fi_W n (natAbs_good h)] at this
  exact this

theorem reads_at {w : World} {v : Value} {n : Nat} {F : Nat → Value} (h : Reads1 w v ((List.range n).map F)) : ∃ a c, v = .slice a n c ∧ ∀ j, j < n → ∃ b o, a = some ⟨b, o, none⟩ ∧ w.cell? ⟨b, o + j, none⟩ = some (F j) := by
  rcases h with ⟨a, c, rfl, h0⟩ | ⟨b, o, m, c, rfl, hn, hc⟩
  · have hn : n = 0 := by simpa using h0
    subst hn
    exact ⟨a, c, rfl, fun j hj => by omega⟩
  · have hm : m = n := by simpa using hn
    subst hm
    refine ⟨_, c, rfl, fun j hj => ⟨b, o, rfl, ?_⟩⟩
    rw [hc j (by simpa using hj)]
    simp

theorem wholesOf_floats {w : World} {s : Value} {n : Nat} {l : Nat → Int} (hr : Reads1 w s ((List.range n).map fun j => .float .f64 (fi (l j)))) (hg : ∀ j, j < n → Good (l j)) : WholesOf w (vecV 4 vnil 0 vnil vnil s vnil vnil) n l := by
  obtain ⟨a, c, rfl, hc⟩ := reads_at hr
  refine ⟨fun w' _ => len_4 _ _ _ _ _ _ _ _ _ _, fun w' hb j hj => ?_⟩
  obtain ⟨b, o, rfl, hcell⟩ := hc j hj
  exact swhole_float _ _ _ _ _ _ _ _ _ _ _ hj _ _ (fun W => nwhole_fi _ (hg j hj) W) w' (by rw [hb.cell (cell_lt hcell)]; exact hcell)
theorem wholesOf_ints {w : World} {s : Value} {n : Nat} {l : Nat → Int} (hr : Reads1 w s ((List.range n).map fun j => .int .i64 (l j))) : WholesOf w (vecV 3 vnil 0 vnil s vnil vnil vnil) n l := by
  obtain ⟨a, c, rfl, hc⟩ := reads_at hr
  refine ⟨fun w' _ => len_3 _ _ _ _ _ _ _ _ _ _, fun w' hb j hj => ?_⟩
  obtain ⟨b, o, rfl, hcell⟩ := hc j hj
  exact swhole_ints _ _ _ _ _ _ _ _ _ _ _ hj _ w' (by rw [hb.cell (cell_lt hcell)]; exact hcell)

/-- a Vec of eight-bit numbers: what is read of it -/
def Small8 (n : Nat) (l : Nat → Int) (u : Value) (W : World) : Prop := ∃ s, u = vecV 2 vnil 0 s vnil vnil vnil vnil ∧ Reads1 W s ((List.range n).map fun j => .int .i8 (l j))
theorem Small8.vr {n : Nat} {l : Nat → Int} {u : Value} {W : World} (h : Small8 n l u W) (hl : ∀ j, j < n → -128 ≤ l j ∧ l j ≤ 127) : VR W u (.small ((List.range n).map l)) := by
  obtain ⟨s, e, hr⟩ := h
  refine ⟨s, e, by rw [List.map_map]; exact hr, fun x hx => ?_⟩
  obtain ⟨j, hj, rfl⟩ := List.mem_map.1 hx
  exact hl j (List.mem_range.1 hj)

/-- squeeze.Into into eight bits, told with the caller's hole -/
theorem into_small (H : Nat → Prop) (w W : World) (hH : ∀ b, H b → b < w.heap.size) (hb : Below w.heap.size w W) (k : Int) (hk2 : k ≠ 2) (hk0 : k ≠ 0) (b : Value) (bn : Int) (s i f c x : Value) (n : Nat) (l : Nat → Int) (h : WholesOf W (vecV k b bn s i f c x) n l)
    (hcls : ∀ w', Below W.heap.size W w' → Calls Tryz.prog 31 #[vecV k b bn s i f c x] w' fun e w2 => e = .returned (.int .i64 0) ∧ Below w'.heap.size w' w2)
    (hn : n ≤ 1000000) (hl : ∀ j, j < n → -128 ≤ l j ∧ l j ≤ 127) :
    Calls Tryz.prog 30 #[vecV k b bn s i f c x, .int .i64 2] W (IntoR H w W (Small8 n l)) := by
  refine (intoSmall_walk k b bn s i f c x n l W h hcls hk2 hk0 hn hl).mono ?_
  rintro e w' ⟨u, rfl, ho, hb2⟩
  obtain ⟨a, m, c', rfl⟩ : ∃ a m c', u = .slice a m c' := by obtain ⟨a, c, e⟩ := ho.reads.len; exact ⟨a, _, c, e⟩
  exact ⟨2, (none, 0, 0), 0, (a, m, c'), (none, 0, 0), (none, 0, 0), (none, 0, 0), (none, 0, 0), rfl, (ho.keepsH (Hole.lt hH hb)).imp fun w2 h2 => ⟨_, rfl, h2⟩, hb2⟩
end Go.Proofs.YtdddmehchfnppaaGreatDoor
