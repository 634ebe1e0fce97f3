/- Merged texts. The walk of scan.wholes where every line goes in whole numbers. Conditions: as each theorem says. The walks of scan.Scan at an unknown function, at characters and at boxes. Conditions: as each theorem says. The walk of scan.Scan at numbers in a store of whole ones, where every line goes in whole numbers. Conditions: as each theorem says. -/
import Derived.Test.YtdddmehchfnppaaGreatDoorMg25
import Derived.Test.YtdddmehchfnppaaGreatDoorMg07
import Derived.Test.YtdddmehchfnppaaGreatDoorMg05
namespace Go.Proofs.YtdddmehchfnppaaGreatDoor
open Go Go.RowKit Go.Proofs Fl

theorem Row64.made (w : World) (B : Nat) (hB : B ≤ w.heap.size) (T : Nat) (hT : T ≤ maxLen) : Row64 (w.alloc (.cells (madeCells #[.int .i64 0] T) 2)) B w.heap.size T (fun _ => 0) := by
  have h := World.ownsRow_lit (base := B) (e := 2) (size := 1) w (madeCells #[.int .i64 0] T) T hB hT (by rw [size_madeCells]; omega)
  rw [toList_madeCells_one] at h
  refine Row64.of_ow ?_
  have e : ((List.range T).map fun _ : Nat => Value.int .i64 0) = List.replicate T (.int .i64 0) := by
    rw [List.map_const', List.length_range]
  rw [e]
  exact h

theorem idx_surj {outer n inner j : Nat} (h : j < outer * n * inner) : ∃ o k i, o < outer ∧ k < inner ∧ i < n ∧ j = o * n * inner + k + i * inner := by
  have hi : 0 < inner := by
    rcases Nat.eq_zero_or_pos inner with e | e
    · rw [e, Nat.mul_zero] at h; omega
    · exact e
  have hn : 0 < n := by
    rcases Nat.eq_zero_or_pos n with e | e
    · rw [e, Nat.mul_zero, Nat.zero_mul] at h; omega
    · exact e
  have hni : 0 < n * inner := Nat.mul_pos hn hi
  refine ⟨j / (n * inner), (j % (n * inner)) % inner, (j % (n * inner)) / inner, ?_, Nat.mod_lt _ hi, ?_, ?_⟩
  · refine Nat.div_lt_of_lt_mul ?_
    rw [Nat.mul_comm, ← Nat.mul_assoc]
    exact h
  · refine Nat.div_lt_of_lt_mul ?_
    exact Nat.lt_of_lt_of_eq (Nat.mod_lt _ hni) (Nat.mul_comm _ _)
  · have h1 := Nat.div_add_mod j (n * inner)
    have h2 := Nat.div_add_mod (j % (n * inner)) inner
    have h3 : j / (n * inner) * n * inner = n * inner * (j / (n * inner)) := by rw [Nat.mul_assoc, Nat.mul_comm]
    have h4 : (j % (n * inner)) / inner * inner = inner * ((j % (n * inner)) / inner) := Nat.mul_comm _ _
    omega

/-- the lines ahead of (o, k) are as they are to be -/
def Done (n inner o k : Nat) (Z F : Nat → Int) : Prop := ∀ o' k' i, (o' < o ∨ (o' = o ∧ k' < k)) → k' < inner → i < n → F (o' * n * inner + k' + i * inner) = Z (o' * n * inner + k' + i * inner)
theorem Done.zero (n inner : Nat) (Z F : Nat → Int) : Done n inner 0 0 Z F := fun o' k' i h => by omega
theorem Done.next {n inner o : Nat} {Z F : Nat → Int} (h : Done n inner o inner Z F) : Done n inner (o + 1) 0 Z F := fun o' k' i h1 h2 h3 => h o' k' i (by omega) h2 h3
theorem Done.line {n inner o k : Nat} {Z F F' : Nat → Int} (h : Done n inner o k Z F) (hl : ∀ i, i < n → F' (o * n * inner + k + i * inner) = Z (o * n * inner + k + i * inner)) (hor : ∀ j, F' j = F j ∨ F' j = Z j) : Done n inner o (k + 1) Z F' := by
  intro o' k' i h1 h2 h3
  by_cases e : o' = o ∧ k' = k
  · obtain ⟨rfl, rfl⟩ := e
    exact hl i h3
  · rcases hor (o' * n * inner + k' + i * inner) with e2 | e2
    · rw [e2]; exact h o' k' i (by omega) h2 h3
    · exact e2
theorem Done.all {outer n inner : Nat} {Z F : Nat → Int} (h : Done n inner outer 0 Z F) : ((List.range (outer * n * inner)).map fun j => Value.int .i64 (F j)) = ((List.range (outer * n * inner)).map fun j => .int .i64 (Z j)) := by
  apply List.map_congr_left
  intro j hj
  obtain ⟨o, k, i, h1, h2, h3, rfl⟩ := idx_surj (List.mem_range.1 hj)
  rw [h o k i (.inl h1) h2 h3]

set_option maxRecDepth 100000 in
set_option maxHeartbeats 4000000 in
theorem swholes_done (H : Nat → Prop) (R : Value → World → Prop) (q : Int) (a : Option Addr) (c T : Nat) (outer n inner : Nat) (Z : Nat → Int) (w : World)
    (hT : T = outer * n * inner) (hb1 : outer ≤ 1000) (hb2 : n ≤ 1000) (hb3 : inner ≤ 1000) (hbT : T ≤ 1000000)
    (hl : ∀ o k W F, o < outer → k < inner → Below w.heap.size w W → Row64 W (w.heap.size + 1) (w.heap.size + 1) T F → Calls Tryz.prog 72 #[.int .i64 q, .slice a T c, .slice (some ⟨w.heap.size + 1, 0, none⟩) T T, .int .i64 ((o * n * inner + k : Nat) : Int), .int .i64 (n : Int), .int .i64 (inner : Int)] W (LineR W (w.heap.size + 1) (w.heap.size + 1) T (o * n * inner + k) n inner Z F))
    (hg : ∀ j, j < T → Good (Z j))
    (hs : ∀ W u, Below w.heap.size w W → Own1 W (w.heap.size + 1) 2 u ((List.range T).map fun j => .int .i64 (Z j)) → Calls Tryz.prog 73 #[vecV 3 vnil 0 vnil u vnil vnil vnil] W (VecR (fun b => H b ∨ b = w.heap.size) W R)) :
    Calls Tryz.prog 35 #[.int .i64 q, .slice a T c, .int .i64 (outer : Int), .int .i64 (n : Int), .int .i64 (inner : Int)] w (Vec2R H w R) := by
  have HT := Lib.hid hT
  have HL := Lib.hid hl
  have HG := Lib.hid hg
  have HS := Lib.hid hs
  have hmk := run_make_row' (P := Tryz.prog) 28 2 (.int .i64 0) 8 Tryz.underlying28 info_i64 rfl .i64 .i64 T (by omega) (by omega)
  have HR0 := Lib.hid (Row64.made (w.alloc (.cells zcells 32)) (w.heap.size + 1) (by simp) T (by unfold maxLen; omega))
  have hsz : (w.alloc (.cells zcells 32)).heap.size = w.heap.size + 1 := by simp
  rw [hsz] at HR0
  have HBM := Lib.hid (bel2 w (.cells zcells 32) (.cells (madeCells #[.int .i64 0] T) 2))
  have HKM := Lib.hid (block_up (bel1 (w.alloc (.cells zcells 32)) (.cells (madeCells #[.int .i64 0] T) 2)))
  clear hT hl hg hs hsz
  go_enter Tryz.func35, Tryz.ntmps35
  go_wp2_with fail
  go_loopw [22] (fun oo wr => ∃ o : Nat, o ≤ outer ∧ oo = .int .i64 o ∧ (∃ F, Row64 wr (w.heap.size + 1) (w.heap.size + 1) T F ∧ Done n inner o 0 Z F) ∧ Below w.heap.size w wr ∧ wr.heap[w.heap.size]? = some (.cells zcells 32)) (fun oo _ => outer - (intOf oo).toNat)
  case atStart => exact ⟨0, Nat.zero_le _, rfl, ⟨_, HR0.out, Done.zero _ _ _ _⟩, HBM.out, HKM.out⟩
  case round =>
    clear hmk HR0 HBM HKM
    obtain ⟨o, ho, rfl, ⟨F, hrow, hdone⟩, hbl, hk⟩ := hrel
    have HROW := Lib.hid hrow
    have HD := Lib.hid hdone
    have HBL := Lib.hid hbl
    have HK := Lib.hid hk
    clear hrow hdone hbl hk
    by_cases hlt : o < outer
    · go_wp2_with fail
      go_loopw [26] (fun kk wr => ∃ k : Nat, k ≤ inner ∧ kk = .int .i64 k ∧ (∃ F, Row64 wr (w.heap.size + 1) (w.heap.size + 1) T F ∧ Done n inner o k Z F) ∧ Below w.heap.size w wr ∧ wr.heap[w.heap.size]? = some (.cells zcells 32)) (fun kk _ => inner - (intOf kk).toNat)
      case atStart => exact ⟨0, Nat.zero_le _, rfl, ⟨_, HROW.out, HD.out⟩, HBL.out, HK.out⟩
      case round =>
        clear HROW HD HBL HK
        obtain ⟨k, hk, rfl, ⟨F, hrow, hdone⟩, hbl, hkk⟩ := hrel
        have HROW := Lib.hid hrow
        have HD := Lib.hid hdone
        have HBL := Lib.hid hbl
        have HK := Lib.hid hkk
        clear hrow hdone hbl hkk
        by_cases hltk : k < inner
        · have HLN := Lib.hid (HL.out o k wr F hlt hltk HBL.out HROW.out)
          obtain ⟨P1, eP1⟩ : ∃ P1, P1 = o * n := ⟨_, rfl⟩
          obtain ⟨P2, eP2⟩ : ∃ P2, P2 = P1 * inner := ⟨_, rfl⟩
          obtain ⟨A, eA⟩ : ∃ A, A = P2 + k := ⟨_, rfl⟩
          have f1 : (o : Int) * (n : Int) = (P1 : Int) := by rw [eP1]; push_cast; rfl
          have f2 : (P1 : Int) * (inner : Int) = (P2 : Int) := by rw [eP2]; push_cast; rfl
          have f3 : (P2 : Int) + (k : Int) = (A : Int) := by rw [eA]; push_cast; rfl
          have hP1 : P1 ≤ 1000000 := by
            rw [eP1]; exact Nat.le_trans (Nat.mul_le_mul (Nat.le_of_lt (Nat.lt_of_lt_of_le hlt hb1)) hb2) (by decide)
          have hP2 : P2 ≤ 1000000000 := by
            rw [eP2]; exact Nat.le_trans (Nat.mul_le_mul hP1 hb3) (by decide)
          have eA' : A = o * n * inner + k := by rw [eA, eP2, eP1]
          rw [← eA'] at HLN
          have HEA := Lib.hid eA'
          clear eP1 eP2 eA eA'
          go_wp2_with fail
          refine HLN.out.mono ?_
          rintro e w2 ⟨rfl, hon, F', hrow', hl', hor'⟩
          rw [HEA.out] at hl'
          have HROW2 := Lib.hid hrow'
          have HD2 := Lib.hid (HD.out.line hl' hor')
          have HB2 := Lib.hid (hon.below HBL.out (Nat.le_succ _) HROW.out.low.2)
          have HK2 := Lib.hid (show w2.heap[w.heap.size]? = some (.cells zcells 32) by rw [hon.block _ (boxed_of HK.out).1.lt (by omega)]; exact HK.out)
          clear hon hrow' hl' hor'
          go_wp2
          go_roundw
          case rel => exact ⟨k + 1, by omega, by go_num, ⟨F', HROW2.out, HD2.out⟩, HB2.out, HK2.out⟩
          case measure => simp [intOf]; omega
        · obtain rfl : k = inner := by omega
          go_wp2
          go_roundw
          case rel => exact ⟨o + 1, by omega, by go_num, ⟨F, HROW.out, HD.out.next⟩, HBL.out, HK.out⟩
          case measure => simp [intOf]; omega
    · obtain rfl : o = outer := by omega
      have HOWN : Hid (Own1 wr (w.heap.size + 1) 2 (.slice (some ⟨w.heap.size + 1, 0, none⟩) T T) ((List.range T).map fun j => .int .i64 (Z j))) := by
        have h := HROW.out
        unfold Row64 at h
        have e := HD.out.all
        rw [← HT.out] at e
        rw [e] at h
        exact h
      have HI := Lib.hid (ints_any (l := (List.range T).map Z) (by rw [List.map_map]; exact HOWN.out.reads) (by simpa using hbT) (fun x hx => by
        obtain ⟨j, hj, rfl⟩ := List.mem_map.1 hx
        exact HG.out j (List.mem_range.1 hj)))
      clear HL HG HROW HD
      go_wp2_with fail
      refine HI.out.mono ?_
      rintro e w2 ⟨u, rfl, hou, hb2⟩
      rw [List.map_map] at hou
      have HB2 := Lib.hid (bel_both HBL.out hb2)
      have HK2 := Lib.hid (show w2.heap[w.heap.size]? = some (.cells zcells 32) by rw [hb2.block _ (boxed_of HK.out).1.lt]; exact HK.out)
      have HU := Lib.hid (hou.lower (show w.heap.size + 1 ≤ wr.heap.size from (boxed_of HK.out).1.lt))
      obtain ⟨ua, un, uc, hu⟩ : ∃ a n c, u = .slice a n c := by obtain ⟨a, c, e⟩ := hou.reads.len; exact ⟨a, _, c, e⟩
      subst hu
      clear hb2 hou
      have HB3 := Lib.hid (HB2.out.alloc HB2.out.size (.cells #[.int .i64 3, vnil, .int .i64 0, vnil, .slice ua un uc, vnil, vnil, vnil] 32))
      have HK3 := Lib.hid (show (w2.alloc (.cells #[.int .i64 3, vnil, .int .i64 0, vnil, .slice ua un uc, vnil, vnil, vnil] 32)).heap[w.heap.size]? = some (.cells zcells 32) by rw [Below.heap_alloc _ _ _ (boxed_of HK2.out).1.lt]; exact HK2.out)
      have HU3 := Lib.hid (HU.out.alloc (.cells #[.int .i64 3, vnil, .int .i64 0, vnil, .slice ua un uc, vnil, vnil, vnil] 32))
      have HS3 := Lib.hid (HS.out _ _ HB3.out HU3.out)
      go_wp2_with fail
      refine HS3.out.mono ?_
      rintro e w4 ⟨k4, b4, bn4, s4, i4, f4, c4, x4, rfl, hk4, hb4⟩
      have HB4 := Lib.hid (bel_both HB3.out hb4)
      have HK4 := Lib.hid (show w4.heap[w.heap.size]? = some (.cells zcells 32) by rw [hb4.block _ (boxed_of HK3.out).1.lt]; exact HK3.out)
      have HKE := Lib.hid hk4
      clear hb4 hk4
      obtain ⟨⟨h0, h1, h2, h3, h4, h5, h6, h7⟩, hz⟩ := boxed_of HK4.out
      go_wp2
      refine bodyPost_ret (v := .tuple #[vecW k4 b4 bn4 s4 i4 f4 c4 x4, .bool true]) ?_ rfl ⟨k4, b4, bn4, s4, i4, f4, c4, x4, rfl, (HKE.out.set8 (.inr rfl) _ _ _ _ _ _ _ _).sub (fun _ _ e => .inl e), below_set8 HB4.out (Nat.le_refl _) _ _ _ _ _ _ _ _⟩
      exact ret_vec2 (fn := Tryz.f35) (p := 10) (u := 11) rfl _ _ w.heap.size (by rfl) (set8_block HK4.out _ _ _ _ _ _ _ _)
end Go.Proofs.YtdddmehchfnppaaGreatDoor
namespace Go.Proofs.YtdddmehchfnppaaGreatDoor
open Go Go.RowKit Go.Proofs Fl

set_option maxRecDepth 100000 in
set_option maxHeartbeats 1000000 in
theorem scan_unknown (q : Int) (hq : knownB q = false) (k : Int) (b : Value) (bn : Int) (s i f c x : Value) (o n r : Int) (w : World) :
    Calls Tryz.prog 9 #[.int .i64 q, vecV k b bn s i f c x, .int .i64 o, .int .i64 n, .int .i64 r] w fun e w' => e = .returned (.tuple #[vecV 0 vnil 0 vnil vnil vnil vnil vnil, .int .i64 1]) ∧ Below w.heap.size w w' := by
  have HK := Lib.hid (fun W => hq ▸ known_any q W)
  have HS := Lib.hid (St.new w k b bn s i f c x)
  clear hq
  go_enter Tryz.func9, Tryz.ntmps9
  go_wp2_with fail
  refine (HK.out _).mono ?_
  rintro e w1 ⟨rfl, hw⟩
  rw [hw] at HS
  clear hw
  obtain ⟨⟨h0, h1, h2, h3, h4, h5, h6, h7⟩, hz⟩ := boxed_of HS.out.res
  go_wp2
  refine bodyPost_ret (v := .tuple #[vecV 0 vnil 0 vnil vnil vnil vnil vnil, .int .i64 1]) ?_ rfl ⟨rfl, below_set8 HS.out.bel (Nat.le_succ _) _ _ _ _ _ _ _ _⟩
  exact ret_vec2 (fn := Tryz.f9) (p := 10) (u := 11) rfl _ _ (w.heap.size + 1) (by rfl) (set8_block HS.out.res _ _ _ _ _ _ _ _)

set_option maxRecDepth 100000 in
set_option maxHeartbeats 1000000 in
theorem scan_chars_dom (q : Int) (hq : knownB q = true) (b : Value) (bn : Int) (s i f c x : Value) (o n r : Int) (ho : 0 ≤ o) (hr : 0 ≤ r) (h1 : 1 < n) (w : World) :
    Calls Tryz.prog 9 #[.int .i64 q, vecV 5 b bn s i f c x, .int .i64 o, .int .i64 n, .int .i64 r] w fun e w' => e = .returned (.tuple #[vecV 0 vnil 0 vnil vnil vnil vnil vnil, .int .i64 24]) ∧ Below w.heap.size w w' := by
  have HK := Lib.hid (fun W => hq ▸ known_any q W)
  have HS := Lib.hid (St.new w 5 b bn s i f c x)
  have HC := Lib.hid (fun W => class_5 b bn s i f c x W)
  have o1 : ¬ o < 0 := by omega
  have n1 : ¬ n < 0 := by omega
  have r1 : ¬ r < 0 := by omega
  clear hq ho hr
  go_enter Tryz.func9, Tryz.ntmps9
  go_wp2_with fail
  refine (HK.out _).mono ?_
  rintro e w1 ⟨rfl, hw⟩
  rw [hw] at HS
  clear hw
  obtain ⟨h0, h1, h2, h3, h4, h5, h6, h7⟩ := HS.out.box
  go_wp2_with fail
  refine (HC.out _).mono ?_
  rintro e w2 ⟨rfl, hb2⟩
  have HS2 := Lib.hid (HS.out.step hb2)
  clear hb2 h0 h1 h2 h3 h4 h5 h6 h7 HS
  have HSE := HS2
  obtain ⟨⟨h0, h1, h2, h3, h4, h5, h6, h7⟩, hz⟩ := boxed_of HSE.out.res
  go_wp2
  refine bodyPost_ret (v := .tuple #[vecV 0 vnil 0 vnil vnil vnil vnil vnil, .int .i64 24]) ?_ rfl ⟨rfl, below_set8 HSE.out.bel (Nat.le_succ _) _ _ _ _ _ _ _ _⟩
  exact ret_vec2 (fn := Tryz.f9) (p := 10) (u := 11) rfl _ _ (w.heap.size + 1) (by rfl) (set8_block HSE.out.res _ _ _ _ _ _ _ _)

set_option maxRecDepth 100000 in
set_option maxHeartbeats 1000000 in
theorem scan_boxes_dom (q : Int) (hq : knownB q = true) (b : Value) (bn : Int) (s i f c x : Value) (o n r : Int) (ho : 0 ≤ o) (hn : 0 ≤ n) (hr : 0 ≤ r) (h1 : n = 1) (w : World) :
    Calls Tryz.prog 9 #[.int .i64 q, vecV 6 b bn s i f c x, .int .i64 o, .int .i64 n, .int .i64 r] w fun e w' => e = .returned (.tuple #[vecV 0 vnil 0 vnil vnil vnil vnil vnil, .int .i64 24]) ∧ Below w.heap.size w w' := by
  have HK := Lib.hid (fun W => hq ▸ known_any q W)
  have HS := Lib.hid (St.new w 6 b bn s i f c x)
  have HC := Lib.hid (fun W => class_6 b bn s i f c x W)
  have o1 : ¬ o < 0 := by omega
  have r1 : ¬ r < 0 := by omega
  subst h1
  clear hq ho hn hr
  go_enter Tryz.func9, Tryz.ntmps9
  go_wp2_with fail
  refine (HK.out _).mono ?_
  rintro e w1 ⟨rfl, hw⟩
  rw [hw] at HS
  clear hw
  obtain ⟨h0, h1, h2, h3, h4, h5, h6, h7⟩ := HS.out.box
  go_wp2_with fail
  refine (HC.out _).mono ?_
  rintro e w2 ⟨rfl, hb2⟩
  have HS2 := Lib.hid (HS.out.step hb2)
  clear hb2 h0 h1 h2 h3 h4 h5 h6 h7 HS
  obtain ⟨h0, h1, h2, h3, h4, h5, h6, h7⟩ := HS2.out.box
  go_wp2_with fail
  refine (HC.out _).mono ?_
  rintro e w3 ⟨rfl, hb3⟩
  have HSE := Lib.hid (HS2.out.step hb3)
  clear hb3 h0 h1 h2 h3 h4 h5 h6 h7 HS2
  obtain ⟨⟨h0, h1, h2, h3, h4, h5, h6, h7⟩, hz⟩ := boxed_of HSE.out.res
  go_wp2
  refine bodyPost_ret (v := .tuple #[vecV 0 vnil 0 vnil vnil vnil vnil vnil, .int .i64 24]) ?_ rfl ⟨rfl, below_set8 HSE.out.bel (Nat.le_succ _) _ _ _ _ _ _ _ _⟩
  exact ret_vec2 (fn := Tryz.f9) (p := 10) (u := 11) rfl _ _ (w.heap.size + 1) (by rfl) (set8_block HSE.out.res _ _ _ _ _ _ _ _)


set_option maxRecDepth 100000 in
set_option maxHeartbeats 1000000 in
theorem scan_chars_one (q : Int) (hq : knownB q = true) (b : Value) (bn : Int) (s i f x : Value) (p : Option Addr) (m d : Nat) (o n r : Int) (ho : 0 ≤ o) (hn : 0 ≤ n) (hle : n ≤ 1) (hr : 0 ≤ r) (hb : b = vnil) (hs : s = vnil) (hi : i = vnil) (hf : f = vnil) (hx : x = vnil) (w : World) :
    Calls Tryz.prog 9 #[.int .i64 q, vecV 5 b bn s i f (.slice p m d) x, .int .i64 o, .int .i64 n, .int .i64 r] w fun e w' => e = .returned (.tuple #[vecV 5 b bn s i f (.slice p m d) x, .int .i64 0]) ∧ Below w.heap.size w w' := by
  subst hb hs hi hf hx
  have HK := Lib.hid (fun W => hq ▸ known_any q W)
  have HS := Lib.hid (St.new w 5 vnil bn vnil vnil vnil (.slice p m d) vnil)
  have HC := Lib.hid (fun W => class_5 vnil bn vnil vnil vnil (.slice p m d) vnil W)
  have o1 : ¬ o < 0 := by omega
  have r1 : ¬ r < 0 := by omega
  have n1 : ¬ n < 0 := by omega
  have n2 : ¬ 1 < n := by omega
  clear hq ho hr hn hle
  go_enter Tryz.func9, Tryz.ntmps9
  go_wp2_with fail
  refine (HK.out _).mono ?_
  rintro e w1 ⟨rfl, hw⟩
  rw [hw] at HS
  clear hw
  obtain ⟨h0, h1, h2, h3, h4, h5, h6, h7⟩ := HS.out.box
  go_wp2_with fail
  refine (HC.out _).mono ?_
  rintro e w2 ⟨rfl, hb2⟩
  have HS2 := Lib.hid (HS.out.step hb2)
  clear hb2 h0 h1 h2 h3 h4 h5 h6 h7 HS
  obtain ⟨h0, h1, h2, h3, h4, h5, h6, h7⟩ := HS2.out.box
  go_wp2_with fail
  refine (HC.out _).mono ?_
  rintro e w3 ⟨rfl, hb3⟩
  have HSE := Lib.hid (HS2.out.step hb3)
  clear hb3 h0 h1 h2 h3 h4 h5 h6 h7 HS2
  obtain ⟨h0, h1, h2, h3, h4, h5, h6, h7⟩ := HSE.out.box
  obtain ⟨⟨g0, g1, g2, g3, g4, g5, g6, g7⟩, hz⟩ := boxed_of HSE.out.res
  go_wp2
  refine bodyPost_ret (v := .tuple #[vecV 5 vnil bn vnil vnil vnil (.slice p m d) vnil, .int .i64 0]) ?_ rfl ⟨rfl, below_set8 HSE.out.bel (Nat.le_succ _) _ _ _ _ _ _ _ _⟩
  exact ret_vec2 (fn := Tryz.f9) (p := 10) (u := 11) rfl _ _ (w.heap.size + 1) (by rfl) (set8_block HSE.out.res _ _ _ _ _ _ _ _)
end Go.Proofs.YtdddmehchfnppaaGreatDoor
namespace Go.Proofs.YtdddmehchfnppaaGreatDoor
open Go Go.RowKit Go.Proofs Fl

set_option maxRecDepth 100000 in
set_option maxHeartbeats 400000 in
theorem scan_wholes (H : Nat → Prop) (R : Value → World → Prop) (P : World → Value → Prop) (q : Int) (hq : knownB q = true) (k : Int) (b : Value) (bn : Int) (s i f c x : Value) (o n r : Int) (ho : 0 ≤ o) (hn : 2 ≤ n) (hr : 0 ≤ r) (w : World)
    (hcl : ∀ W, Calls Tryz.prog 31 #[vecV k b bn s i f c x] W fun e w' => e = .returned (.int .i64 0) ∧ Below W.heap.size W w')
    (hk : k ≠ 1)
    (hP : ∀ W W' v, P W v → Below W.heap.size W W' → P W' v)
    (hwh : ∀ W, Below w.heap.size w W → Calls Tryz.prog 34 #[vecV k b bn s i f c x] W (SlTrue P W))
    (hfw : ∀ W v, Below w.heap.size w W → P W v → Calls Tryz.prog 35 #[.int .i64 q, v, .int .i64 o, .int .i64 n, .int .i64 r] W (Vec2R (Hole H w W) W R)) :
    Calls Tryz.prog 9 #[.int .i64 q, vecV k b bn s i f c x, .int .i64 o, .int .i64 n, .int .i64 r] w (VecOk H w R) := by
  have HK := Lib.hid (fun W => hq ▸ known_any q W)
  have HS := Lib.hid (St.new w k b bn s i f c x)
  have HC := Lib.hid hcl
  have HPK := Lib.hid (fun W => packed_no k hk b bn s i f c x W)
  have HP := Lib.hid hP
  have HWH := Lib.hid hwh
  have HFW := Lib.hid hfw
  have o1 : ¬ o < 0 := by omega
  have n1 : ¬ n < 0 := by omega
  have r1 : ¬ r < 0 := by omega
  have e0 : ¬ n ≤ 1 := by omega
  clear hq ho hn hr hcl hk hP hwh hfw
  go_enter Tryz.func9, Tryz.ntmps9
  go_wp2_with fail
  refine (HK.out _).mono ?_
  rintro e w1 ⟨rfl, hw⟩
  rw [hw] at HS
  clear hw
  obtain ⟨h0, h1, h2, h3, h4, h5, h6, h7⟩ := HS.out.box
  go_wp2_with fail
  refine (HC.out _).mono ?_
  rintro e w2 ⟨rfl, hb2⟩
  have HS2 := Lib.hid (HS.out.step hb2)
  clear hb2 h0 h1 h2 h3 h4 h5 h6 h7 HS
  obtain ⟨h0, h1, h2, h3, h4, h5, h6, h7⟩ := HS2.out.box
  go_wp2_with fail
  refine (HPK.out _).mono ?_
  rintro e w3 ⟨rfl, hb3⟩
  have HS3 := Lib.hid (HS2.out.step hb3)
  clear hb3 h0 h1 h2 h3 h4 h5 h6 h7 HS2
  obtain ⟨h0, h1, h2, h3, h4, h5, h6, h7⟩ := HS3.out.box
  have z3 : w.heap.size < w3.heap.size := HS3.out.box.lt
  have z3' : w.heap.size + 1 < w3.heap.size := HS3.out.sz
  have HS3' := Lib.hid (HS3.out.step (bel1 w3 (.cells #[vnil, .int .i64 0] 26)))
  have HWH3 := Lib.hid (HWH.out _ HS3'.out.bel)
  go_wp2_with fail
  refine HWH3.out.mono ?_
  rintro e w4 ⟨a4, n4, c4, rfl, hp4, hb4⟩
  have HS4 := Lib.hid (HS3'.out.step hb4)
  have HFW4 := Lib.hid (HFW.out _ _ HS4.out.bel hp4)
  clear hb4 hp4 h0 h1 h2 h3 h4 h5 h6 h7 HS3 HS3'
  go_wp2_with fail
  refine HFW4.out.mono ?_
  rintro e w5 ⟨k5, b5, bn5, s5, i5, f5, c5, x5, rfl, hk5, hb5⟩
  have HS5 := Lib.hid (HS4.out.step hb5)
  have HK5 := Lib.hid (hk5.sub (H' := fun j => H j ∨ j = w.heap.size + 1) fun j _ e => e.imp id fun e => by have := HS4.out.sz; omega)
  clear hb5 hk5 z3 z3'
  have z5 : w.heap.size < w5.heap.size := HS5.out.box.lt
  have z5' : w.heap.size + 1 < w5.heap.size := HS5.out.sz
  have HKE := Lib.hid ((HK5.out.set8 (.inr rfl) (.int .i64 k5) (.slice b5.1 b5.2.1 b5.2.2) (.int .i64 bn5) (.slice s5.1 s5.2.1 s5.2.2) (.slice i5.1 i5.2.1 i5.2.2) (.slice f5.1 f5.2.1 f5.2.2) (.slice c5.1 c5.2.1 c5.2.2) (.slice x5.1 x5.2.1 x5.2.2)).sub (H' := H) fun _ _ e => .inl e)
  have HBE := Lib.hid (below_set8 HS5.out.bel (Nat.le_succ _) (.int .i64 k5) (.slice b5.1 b5.2.1 b5.2.2) (.int .i64 bn5) (.slice s5.1 s5.2.1 s5.2.2) (.slice i5.1 i5.2.1 i5.2.2) (.slice f5.1 f5.2.1 f5.2.2) (.slice c5.1 c5.2.1 c5.2.2) (.slice x5.1 x5.2.1 x5.2.2))
  have HRE := Lib.hid (set8_block HS5.out.res (.int .i64 k5) (.slice b5.1 b5.2.1 b5.2.2) (.int .i64 bn5) (.slice s5.1 s5.2.1 s5.2.2) (.slice i5.1 i5.2.1 i5.2.2) (.slice f5.1 f5.2.1 f5.2.2) (.slice c5.1 c5.2.1 c5.2.2) (.slice x5.1 x5.2.1 x5.2.2))
  obtain ⟨⟨h0, h1, h2, h3, h4, h5, h6, h7⟩, hz⟩ := boxed_of HS5.out.res
  go_wp2
  refine bodyPost_ret (v := .tuple #[vecW k5 b5 bn5 s5 i5 f5 c5 x5, .int .i64 0]) ?_ rfl ⟨k5, b5, bn5, s5, i5, f5, c5, x5, rfl, HKE.out.step (bel1 _ _), bel_both HBE.out (bel1 _ _)⟩
  exact ret_vec2 (fn := Tryz.f9) (p := 10) (u := 11) rfl _ _ (w.heap.size + 1) (by rfl) ((Below.heap_alloc _ _ _ (lt_of_block HRE.out)).trans HRE.out)
end Go.Proofs.YtdddmehchfnppaaGreatDoor
