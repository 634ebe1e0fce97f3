/- The walk of scan.wholes where every line goes in whole numbers. Conditions: as each theorem says. -/
import Derived.Test.YtdddmehchfnppaaDoorSln
import Derived.Test.YtdddmehchfnppaaDoorFwi
namespace Go.Proofs.YtdddmehchfnppaaDoor
open Go Go.RowKit Go.Proofs Fl

theorem Row64.made (w : World) (B : Nat) (hB : B ≤ w.heap.size) (T : Nat) (hT : T ≤ maxLen) : Row64 (w.alloc (.cells (madeCells #[.int .i64 0] T) 2)) B w.heap.size T (fun _ => 0) := by
  have h := World.ownsRow_lit (base := B) (e := 2) (size := 1) w (madeCells #[.int .i64 0] T) T hB hT (by rw [size_madeCells]; omega)
  rw [toList_madeCells_one] at h
  refine Row64.of_ow ?_
  have e : ((List.range T).map fun _ : Nat => Value.int .i64 0) = List.replicate T (.int .i64 0) := by
    rw [List.map_const', List.length_range]
  rw [e]
  exact h

theorem idx_surj {outer n inner j : Nat} (h : j < outer * n * inner) : ∃ o k i, o < outer ∧ k < inner ∧ i < n ∧ j = o * n * inner + k + i * inner := by
  have hi : 0 < inner := by
    rcases Nat.eq_zero_or_pos inner with e | e
    · rw [e, Nat.mul_zero] at h; omega
    · exact e
  have hn : 0 < n := by
    rcases Nat.eq_zero_or_pos n with e | e
    · rw [e, Nat.mul_zero, Nat.zero_mul] at h; omega
    · exact e
  have hni : 0 < n * inner := Nat.mul_pos hn hi
  refine ⟨j / (n * inner), (j % (n * inner)) % inner, (j % (n * inner)) / inner, ?_, Nat.mod_lt _ hi, ?_, ?_⟩
  · refine Nat.div_lt_of_lt_mul ?_
    rw [Nat.mul_comm, ← Nat.mul_assoc]
    exact h
  · refine Nat.div_lt_of_lt_mul ?_
    exact Nat.lt_of_lt_of_eq (Nat.mod_lt _ hni) (Nat.mul_comm _ _)
  · have h1 := Nat.div_add_mod j (n * inner)
    have h2 := Nat.div_add_mod (j % (n * inner)) inner
    have h3 : j / (n * inner) * n * inner = n * inner * (j / (n * inner)) := by rw [Nat.mul_assoc, Nat.mul_comm]
    have h4 : (j % (n * inner)) / inner * inner = inner * ((j % (n * inner)) / inner) := Nat.mul_comm _ _
    omega

/-- the lines ahead of (o, k) are as they are to be -/
def Done (n inner o k : Nat) (Z F : Nat → Int) : Prop := ∀ o' k' i, (o' < o ∨ (o' = o ∧ k' < k)) → k' < inner → i < n → F (o' * n * inner + k' + i * inner) = Z (o' * n * inner + k' + i * inner)
theorem Done.zero (n inner : Nat) (Z F : Nat → Int) : Done n inner 0 0 Z F := fun o' k' i h => by omega
theorem Done.next {n inner o : Nat} {Z F : Nat → Int} (h : Done n inner o inner Z F) : Done n inner (o + 1) 0 Z F := fun o' k' i h1 h2 h3 => h o' k' i (by omega) h2 h3
theorem Done.line {n inner o k : Nat} {Z F F' : Nat → Int} (h : Done n inner o k Z F) (hl : ∀ i, i < n → F' (o * n * inner + k + i * inner) = Z (o * n * inner + k + i * inner)) (hor : ∀ j, F' j = F j ∨ F' j = Z j) : Done n inner o (k + 1) Z F' := by
  intro o' k' i h1 h2 h3
  by_cases e : o' = o ∧ k' = k
  · obtain ⟨rfl, rfl⟩ := e
    exact hl i h3
  · rcases hor (o' * n * inner + k' + i * inner) with e2 | e2
    · rw [e2]; exact h o' k' i (by omega) h2 h3
    · exact e2
theorem Done.all {outer n inner : Nat} {Z F : Nat → Int} (h : Done n inner outer 0 Z F) : ((List.range (outer * n * inner)).map fun j => Value.int .i64 (F j)) = ((List.range (outer * n * inner)).map fun j => .int .i64 (Z j)) := by
  apply List.map_congr_left
  intro j hj
  obtain ⟨o, k, i, h1, h2, h3, rfl⟩ := idx_surj (List.mem_range.1 hj)
  rw [h o k i (.inl h1) h2 h3]

set_option maxRecDepth 100000 in
set_option maxHeartbeats 4000000 in
theorem swholes_done (H : Nat → Prop) (R : Value → World → Prop) (q : Int) (a : Option Addr) (c T : Nat) (outer n inner : Nat) (Z : Nat → Int) (w : World)
    (hT : T = outer * n * inner) (hb1 : outer ≤ 1000) (hb2 : n ≤ 1000) (hb3 : inner ≤ 1000) (hbT : T ≤ 1000000)
    (hl : ∀ o k W F, o < outer → k < inner → Below w.heap.size w W → Row64 W (w.heap.size + 1) (w.heap.size + 1) T F → Calls Tryd.prog 74 #[.int .i64 q, .slice a T c, .slice (some ⟨w.heap.size + 1, 0, none⟩) T T, .int .i64 ((o * n * inner + k : Nat) : Int), .int .i64 (n : Int), .int .i64 (inner : Int)] W (LineR W (w.heap.size + 1) (w.heap.size + 1) T (o * n * inner + k) n inner Z F))
    (hg : ∀ j, j < T → Good (Z j))
    (hs : ∀ W u, Below w.heap.size w W → Own1 W (w.heap.size + 1) 2 u ((List.range T).map fun j => .int .i64 (Z j)) → Calls Tryd.prog 57 #[vecV 3 vnil 0 vnil u vnil vnil vnil] W (VecR (fun b => H b ∨ b = w.heap.size) W R)) :
    Calls Tryd.prog 46 #[.int .i64 q, .slice a T c, .int .i64 (outer : Int), .int .i64 (n : Int), .int .i64 (inner : Int)] w (Vec2R H w R) := by
  have HT := Lib.hid hT
  have HL := Lib.hid hl
  have HG := Lib.hid hg
  have HS := Lib.hid hs
  have hmk := run_make_row' (P := Tryd.prog) 23 2 (.int .i64 0) 8 Tryd.underlying23 info_i64 rfl .i64 .i64 T (by omega) (by omega)
  have HR0 := Lib.hid (Row64.made (w.alloc (.cells zcells 35)) (w.heap.size + 1) (by simp) T (by unfold maxLen; omega))
  have hsz : (w.alloc (.cells zcells 35)).heap.size = w.heap.size + 1 := by simp
  rw [hsz] at HR0
  have HBM := Lib.hid (bel2 w (.cells zcells 35) (.cells (madeCells #[.int .i64 0] T) 2))
  have HKM := Lib.hid (block_up (bel1 (w.alloc (.cells zcells 35)) (.cells (madeCells #[.int .i64 0] T) 2)))
  clear hT hl hg hs hsz
  go_enter Tryd.func46, Tryd.ntmps46
  go_wp2_with fail
  go_loopw [22] (fun oo wr => ∃ o : Nat, o ≤ outer ∧ oo = .int .i64 o ∧ (∃ F, Row64 wr (w.heap.size + 1) (w.heap.size + 1) T F ∧ Done n inner o 0 Z F) ∧ Below w.heap.size w wr ∧ wr.heap[w.heap.size]? = some (.cells zcells 35)) (fun oo _ => outer - (intOf oo).toNat)
  case atStart => exact ⟨0, Nat.zero_le _, rfl, ⟨_, HR0.out, Done.zero _ _ _ _⟩, HBM.out, HKM.out⟩
  case round =>
    clear hmk HR0 HBM HKM
    obtain ⟨o, ho, rfl, ⟨F, hrow, hdone⟩, hbl, hk⟩ := hrel
    have HROW := Lib.hid hrow
    have HD := Lib.hid hdone
    have HBL := Lib.hid hbl
    have HK := Lib.hid hk
    clear hrow hdone hbl hk
    by_cases hlt : o < outer
    · go_wp2_with fail
      go_loopw [26] (fun kk wr => ∃ k : Nat, k ≤ inner ∧ kk = .int .i64 k ∧ (∃ F, Row64 wr (w.heap.size + 1) (w.heap.size + 1) T F ∧ Done n inner o k Z F) ∧ Below w.heap.size w wr ∧ wr.heap[w.heap.size]? = some (.cells zcells 35)) (fun kk _ => inner - (intOf kk).toNat)
      case atStart => exact ⟨0, Nat.zero_le _, rfl, ⟨_, HROW.out, HD.out⟩, HBL.out, HK.out⟩
      case round =>
        clear HROW HD HBL HK
        obtain ⟨k, hk, rfl, ⟨F, hrow, hdone⟩, hbl, hkk⟩ := hrel
        have HROW := Lib.hid hrow
        have HD := Lib.hid hdone
        have HBL := Lib.hid hbl
        have HK := Lib.hid hkk
        clear hrow hdone hbl hkk
        by_cases hltk : k < inner
        · have HLN := Lib.hid (HL.out o k wr F hlt hltk HBL.out HROW.out)
          obtain ⟨P1, eP1⟩ : ∃ P1, P1 = o * n := ⟨_, rfl⟩
          obtain ⟨P2, eP2⟩ : ∃ P2, P2 = P1 * inner := ⟨_, rfl⟩
          obtain ⟨A, eA⟩ : ∃ A, A = P2 + k := ⟨_, rfl⟩
          have f1 : (o : Int) * (n : Int) = (P1 : Int) := by rw [eP1]; push_cast; rfl
          have f2 : (P1 : Int) * (inner : Int) = (P2 : Int) := by rw [eP2]; push_cast; rfl
          have f3 : (P2 : Int) + (k : Int) = (A : Int) := by rw [eA]; push_cast; rfl
          have hP1 : P1 ≤ 1000000 := by
            rw [eP1]; exact Nat.le_trans (Nat.mul_le_mul (Nat.le_of_lt (Nat.lt_of_lt_of_le hlt hb1)) hb2) (by decide)
          have hP2 : P2 ≤ 1000000000 := by
            rw [eP2]; exact Nat.le_trans (Nat.mul_le_mul hP1 hb3) (by decide)
          have eA' : A = o * n * inner + k := by rw [eA, eP2, eP1]
          rw [← eA'] at HLN
          have HEA := Lib.hid eA'
          clear eP1 eP2 eA eA'
          go_wp2_with fail
          refine HLN.out.mono ?_
          rintro e w2 ⟨rfl, hon, F', hrow', hl', hor'⟩
          rw [HEA.out] at hl'
          have HROW2 := Lib.hid hrow'
          have HD2 := Lib.hid (HD.out.line hl' hor')
          have HB2 := Lib.hid (hon.below HBL.out (Nat.le_succ _) HROW.out.low.2)
          have HK2 := Lib.hid (show w2.heap[w.heap.size]? = some (.cells zcells 35) by rw [hon.block _ (boxed_of HK.out).1.lt (by omega)]; exact HK.out)
          clear hon hrow' hl' hor'
          go_wp2
          go_roundw
          case rel => exact ⟨k + 1, by omega, by go_num, ⟨F', HROW2.out, HD2.out⟩, HB2.out, HK2.out⟩
          case measure => simp [intOf]; omega
        · obtain rfl : k = inner := by omega
          go_wp2
          go_roundw
          case rel => exact ⟨o + 1, by omega, by go_num, ⟨F, HROW.out, HD.out.next⟩, HBL.out, HK.out⟩
          case measure => simp [intOf]; omega
    · obtain rfl : o = outer := by omega
      have HOWN : Hid (Own1 wr (w.heap.size + 1) 2 (.slice (some ⟨w.heap.size + 1, 0, none⟩) T T) ((List.range T).map fun j => .int .i64 (Z j))) := by
        have h := HROW.out
        unfold Row64 at h
        have e := HD.out.all
        rw [← HT.out] at e
        rw [e] at h
        exact h
      have HI := Lib.hid (ints_any (l := (List.range T).map Z) (by rw [List.map_map]; exact HOWN.out.reads) (by simpa using hbT) (fun x hx => by
        obtain ⟨j, hj, rfl⟩ := List.mem_map.1 hx
        exact HG.out j (List.mem_range.1 hj)))
      clear HL HG HROW HD
      go_wp2_with fail
      refine HI.out.mono ?_
      rintro e w2 ⟨u, rfl, hou, hb2⟩
      rw [List.map_map] at hou
      have HB2 := Lib.hid (bel_both HBL.out hb2)
      have HK2 := Lib.hid (show w2.heap[w.heap.size]? = some (.cells zcells 35) by rw [hb2.block _ (boxed_of HK.out).1.lt]; exact HK.out)
      have HU := Lib.hid (hou.lower (show w.heap.size + 1 ≤ wr.heap.size from (boxed_of HK.out).1.lt))
      obtain ⟨ua, un, uc, hu⟩ : ∃ a n c, u = .slice a n c := by obtain ⟨a, c, e⟩ := hou.reads.len; exact ⟨a, _, c, e⟩
      subst hu
      clear hb2 hou
      have HB3 := Lib.hid (HB2.out.alloc HB2.out.size (.cells #[.int .i64 3, vnil, .int .i64 0, vnil, .slice ua un uc, vnil, vnil, vnil] 35))
      have HK3 := Lib.hid (show (w2.alloc (.cells #[.int .i64 3, vnil, .int .i64 0, vnil, .slice ua un uc, vnil, vnil, vnil] 35)).heap[w.heap.size]? = some (.cells zcells 35) by rw [Below.heap_alloc _ _ _ (boxed_of HK2.out).1.lt]; exact HK2.out)
      have HU3 := Lib.hid (HU.out.alloc (.cells #[.int .i64 3, vnil, .int .i64 0, vnil, .slice ua un uc, vnil, vnil, vnil] 35))
      have HS3 := Lib.hid (HS.out _ _ HB3.out HU3.out)
      go_wp2_with fail
      refine HS3.out.mono ?_
      rintro e w4 ⟨k4, b4, bn4, s4, i4, f4, c4, x4, rfl, hk4, hb4⟩
      have HB4 := Lib.hid (bel_both HB3.out hb4)
      have HK4 := Lib.hid (show w4.heap[w.heap.size]? = some (.cells zcells 35) by rw [hb4.block _ (boxed_of HK3.out).1.lt]; exact HK3.out)
      have HKE := Lib.hid hk4
      clear hb4 hk4
      obtain ⟨⟨h0, h1, h2, h3, h4, h5, h6, h7⟩, hz⟩ := boxed_of HK4.out
      go_wp2
      refine bodyPost_ret (v := .tuple #[vecW k4 b4 bn4 s4 i4 f4 c4 x4, .bool true]) ?_ rfl ⟨k4, b4, bn4, s4, i4, f4, c4, x4, rfl, (HKE.out.set8 (.inr rfl) _ _ _ _ _ _ _ _).sub (fun _ _ e => .inl e), below_set8 HB4.out (Nat.le_refl _) _ _ _ _ _ _ _ _⟩
      exact ret_vec2 (fn := Tryd.f46) (p := 10) (u := 11) rfl _ _ w.heap.size (by rfl) (set8_block HK4.out _ _ _ _ _ _ _ _)
end Go.Proofs.YtdddmehchfnppaaDoor
