/- Merged texts. The walk of scan.wholes where every line goes in whole numbers. Conditions: as each theorem says. The walks of scan.Scan at an unknown function, at characters and at boxes. Conditions: as each theorem says. The walk of scan.Scan at numbers in a store of whole ones, where every line goes in whole numbers. Conditions: as each theorem says. scan.Scan at eight-bit numbers whose lines come to eight-bit numbers; the walk of kept of law 14. Conditions: as each theorem says. The walk of the Scan statements' own example: awake tells true. Conditions: none. -/
import Derived.Test.YtdddmehchfnppaaGreatDoorMg25
import Derived.Test.YtdddmehchfnppaaGreatDoorMg07
import Derived.Test.YtdddmehchfnppaaGreatDoorMg05
import Derived.Test.YtdddmehchfnppaaGreatDoorMg24
namespace Go.Proofs.YtdddmehchfnppaaGreatDoor
open Go Go.RowKit Go.Proofs Fl

theorem Row64.made (w : World) (B : Nat) (hB : B ≤ w.heap.size) (T : Nat) (hT : T ≤ maxLen) : Row64 (w.alloc (.cells (madeCells #[.int .i64 0] T) 2)) B w.heap.size T (fun _ => 0) := by
  have h := World.ownsRow_lit (base := B) (e := 2) (size := 1) w (madeCells #[.int .i64 0] T) T hB hT (by rw [size_madeCells]; omega)
  rw [toList_madeCells_one] at h
  refine Row64.of_ow ?_
  have e : ((List.range T).map fun _ : Nat => Value.int .i64 0) = List.replicate T (.int .i64 0) := by
    rw [List.map_const', List.length_range]
  rw [e]
  exact h

theorem idx_surj {outer n inner j : Nat} (h : j < outer * n * inner) : ∃ o k i, o < outer ∧ k < inner ∧ i < n ∧ j = o * n * inner + k + i * inner := by
  have hi : 0 < inner := by
    rcases Nat.eq_zero_or_pos inner with e | e
    · rw [e, Nat.mul_zero] at h; omega
    · exact e
  have hn : 0 < n := by
    rcases Nat.eq_zero_or_pos n with e | e
    · rw [e, Nat.mul_zero, Nat.zero_mul] at h; omega
    · exact e
  have hni : 0 < n * inner := Nat.mul_pos hn hi
  refine ⟨j / (n * inner), (j % (n * inner)) % inner, (j % (n * inner)) / inner, ?_, Nat.mod_lt _ hi, ?_, ?_⟩
  · refine Nat.div_lt_of_lt_mul ?_
    rw [Nat.mul_comm, ← Nat.mul_assoc]
    exact h
  · refine Nat.div_lt_of_lt_mul ?_
    exact Nat.lt_of_lt_of_eq (Nat.mod_lt _ hni) (Nat.mul_comm _ _)
  · have h1 := Nat.div_add_mod j (n * inner)
    have h2 := Nat.div_add_mod (j % (n * inner)) inner
    have h3 : j / (n * inner) * n * inner = n * inner * (j / (n * inner)) := by rw [Nat.mul_assoc, Nat.mul_comm]
    have h4 : (j % (n * inner)) / inner * inner = inner * ((j % (n * inner)) / inner) := Nat.mul_comm _ _
    omega

/-- the lines ahead of (o, k) are as they are to be -/
def Done (n inner o k : Nat) (Z F : Nat → Int) : Prop := ∀ o' k' i, (o' < o ∨ (o' = o ∧ k' < k)) → k' < inner → i < n → F (o' * n * inner + k' + i * inner) = Z (o' * n * inner + k' + i * inner)
theorem Done.zero (n inner : Nat) (Z F : Nat → Int) : Done n inner 0 0 Z F := fun o' k' i h => by omega
theorem Done.next {n inner o : Nat} {Z F : Nat → Int} (h : Done n inner o inner Z F) : Done n inner (o + 1) 0 Z F := fun o' k' i h1 h2 h3 => h o' k' i (by omega) h2 h3
theorem Done.line {n inner o k : Nat} {Z F F' : Nat → Int} (h : Done n inner o k Z F) (hl : ∀ i, i < n → F' (o * n * inner + k + i * inner) = Z (o * n * inner + k + i * inner)) (hor : ∀ j, F' j = F j ∨ F' j = Z j) : Done n inner o (k + 1) Z F' := by
  intro o' k' i h1 h2 h3
  by_cases e : o' = o ∧ k' = k
  · obtain ⟨rfl, rfl⟩ := e
    exact hl i h3
  · rcases hor (o' * n * inner + k' + i * inner) with e2 | e2
    · rw [e2]; exact h o' k' i (by omega) h2 h3
    · exact e2
theorem Done.all {outer n inner : Nat} {Z F : Nat → Int} (h : Done n inner outer 0 Z F) : ((List.range (outer * n * inner)).map fun j => Value.int .i64 (F j)) = ((List.range (outer * n * inner)).map fun j => .int .i64 (Z j)) := by
  apply List.map_congr_left
  intro j hj
  obtain ⟨o, k, i, h1, h2, h3, rfl⟩ := idx_surj (List.mem_range.1 hj)
  rw [h o k i (.inl h1) h2 h3]

set_option maxRecDepth 100000 in
set_option maxHeartbeats 4000000 in
theorem swholes_done (H : Nat → Prop) (R : Value → World → Prop) (q : Int) (a : Option Addr) (c T : Nat) (outer n inner : Nat) (Z : Nat → Int) (w : World)
    (hT : T = outer * n * inner) (hb1 : outer ≤ 1000) (hb2 : n ≤ 1000) (hb3 : inner ≤ 1000) (hbT : T ≤ 1000000)
    (hl : ∀ o k W F, o < outer → k < inner → Below w.heap.size w W → Row64 W (w.heap.size + 1) (w.heap.size + 1) T F → Calls Tryz.prog 72 #[.int .i64 q, .slice a T c, .slice (some ⟨w.heap.size + 1, 0, none⟩) T T, .int .i64 ((o * n * inner + k : Nat) : Int), .int .i64 (n : Int), .int .i64 (inner : Int)] W (LineR W (w.heap.size + 1) (w.heap.size + 1) T (o * n * inner + k) n inner Z F))
    (hg : ∀ j, j < T → Good (Z j))
    (hs : ∀ W u, Below w.heap.size w W → Own1 W (w.heap.size + 1) 2 u ((List.range T).map fun j => .int .i64 (Z j)) → Calls Tryz.prog 73 #[vecV 3 vnil 0 vnil u vnil vnil vnil] W (VecR (fun b => H b ∨ b = w.heap.size) W R)) :
    Calls Tryz.prog 35 #[.int .i64 q, .slice a T c, .int .i64 (outer : Int), .int .i64 (n : Int), .int .i64 (inner : Int)] w (Vec2R H w R) := by
  have HT := Lib.hid hT
  have HL := Lib.hid hl
  have HG := Lib.hid hg
  have HS := Lib.hid hs
  have hmk := run_make_row' (P := Tryz.prog) 28 2 (.int .i64 0) 8 Tryz.underlying28 info_i64 rfl .i64 .i64 T (by omega) (by omega)
  have HR0 := Lib.hid (Row64.made (w.alloc (.cells zcells 32)) (w.heap.size + 1) (by simp) T (by unfold maxLen; omega))
  have hsz : (w.alloc (.cells zcells 32)).heap.size = w.heap.size + 1 := by simp
  rw [hsz] at HR0
  have HBM := Lib.hid (bel2 w (.cells zcells 32) (.cells (madeCells #[.int .i64 0] T) 2))
  have HKM := Lib.hid (block_up (bel1 (w.alloc (.cells zcells 32)) (.cells (madeCells #[.int .i64 0] T) 2)))
  clear hT hl hg hs hsz
  go_enter Tryz.func35, Tryz.ntmps35
  go_wp2_with fail
  go_loopw [22] (fun oo wr => ∃ o : Nat, o ≤ outer ∧ oo = .int .i64 o ∧ (∃ F, Row64 wr (w.heap.size + 1) (w.heap.size + 1) T F ∧ Done n inner o 0 Z F) ∧ Below w.heap.size w wr ∧ wr.heap[w.heap.size]? = some (.cells zcells 32)) (fun oo _ => outer - (intOf oo).toNat)
  case atStart => exact ⟨0, Nat.zero_le _, rfl, ⟨_, HR0.out, Done.zero _ _ _ _⟩, HBM.out, HKM.out⟩
  case round =>
    clear hmk HR0 HBM HKM
    obtain ⟨o, ho, rfl, ⟨F, hrow, hdone⟩, hbl, hk⟩ := hrel
    have HROW := Lib.hid hrow
    have HD := Lib.hid hdone
    have HBL := Lib.hid hbl
    have HK := Lib.hid hk
    clear hrow hdone hbl hk
    by_cases hlt : o < outer
    · go_wp2_with fail
      go_loopw [26] (fun kk wr => ∃ k : Nat, k ≤ inner ∧ kk = .int .i64 k ∧ (∃ F, Row64 wr (w.heap.size + 1) (w.heap.size + 1) T F ∧ Done n inner o k Z F) ∧ Below w.heap.size w wr ∧ wr.heap[w.heap.size]? = some (.cells zcells 32)) (fun kk _ => inner - (intOf kk).toNat)
      case atStart => exact ⟨0, Nat.zero_le _, rfl, ⟨_, HROW.out, HD.out⟩, HBL.out, HK.out⟩
      case round =>
        clear HROW HD HBL HK
        obtain ⟨k, hk, rfl, ⟨F, hrow, hdone⟩, hbl, hkk⟩ := hrel
        have HROW := Lib.hid hrow
        have HD := Lib.hid hdone
        have HBL := Lib.hid hbl
        have HK := Lib.hid hkk
        clear hrow hdone hbl hkk
        by_cases hltk : k < inner
        · have HLN := Lib.hid (HL.out o k wr F hlt hltk HBL.out HROW.out)
          obtain ⟨P1, eP1⟩ : ∃ P1, P1 = o * n := ⟨_, rfl⟩
          obtain ⟨P2, eP2⟩ : ∃ P2, P2 = P1 * inner := ⟨_, rfl⟩
          obtain ⟨A, eA⟩ : ∃ A, A = P2 + k := ⟨_, rfl⟩
          have f1 : (o : Int) * (n : Int) = (P1 : Int) := by rw [eP1]; push_cast; rfl
          have f2 : (P1 : Int) * (inner : Int) = (P2 : Int) := by rw [eP2]; push_cast; rfl
          have f3 : (P2 : Int) + (k : Int) = (A : Int) := by rw [eA]; push_cast; rfl
          have hP1 : P1 ≤ 1000000 := by
            rw [eP1]; exact Nat.le_trans (Nat.mul_le_mul (Nat.le_of_lt (Nat.lt_of_lt_of_le hlt hb1)) hb2) (by decide)
          have hP2 : P2 ≤ 1000000000 := by
            rw [eP2]; exact Nat.le_trans (Nat.mul_le_mul hP1 hb3) (by decide)
          have eA' : A = o * n * inner + k := by rw [eA, eP2, eP1]
          rw [← eA'] at HLN
          have HEA := Lib.hid eA'
          clear eP1 eP2 eA eA'
          go_wp2_with fail
          refine HLN.out.mono ?_
          rintro e w2 ⟨rfl, hon, F', hrow', hl', hor'⟩
          rw [HEA.out] at hl'
          have HROW2 := Lib.hid hrow'
          have HD2 := Lib.hid (HD.out.line hl' hor')
          have HB2 := Lib.hid (hon.below HBL.out (Nat.le_succ _) HROW.out.low.2)
          have HK2 := Lib.hid (show w2.heap[w.heap.size]? = some (.cells zcells 32) by rw [hon.block _ (boxed_of HK.out).1.lt (by omega)]; exact HK.out)
          clear hon hrow' hl' hor'
          go_wp2
          go_roundw
          case rel => exact ⟨k + 1, by omega, by go_num, ⟨F', HROW2.out, HD2.out⟩, HB2.out, HK2.out⟩
          case measure => simp [intOf]; omega
        · obtain rfl : k = inner := by omega
          go_wp2
          go_roundw
          case rel => exact ⟨o + 1, by omega, by go_num, ⟨F, HROW.out, HD.out.next⟩, HBL.out, HK.out⟩
          case measure => simp [intOf]; omega
    · obtain rfl : o = outer := by omega
      have HOWN : Hid (Own1 wr (w.heap.size + 1) 2 (.slice (some ⟨w.heap.size + 1, 0, none⟩) T T) ((List.range T).map fun j => .int .i64 (Z j))) := by
        have h := HROW.out
        unfold Row64 at h
        have e := HD.out.all
        rw [← HT.out] at e
        rw [e] at h
        exact h
      have HI := Lib.hid (ints_any (l := (List.range T).map Z) (by rw [List.map_map]; exact HOWN.out.reads) (by simpa using hbT) (fun x hx => by
        obtain ⟨j, hj, rfl⟩ := List.mem_map.1 hx
        exact HG.out j (List.mem_range.1 hj)))
      clear HL HG HROW HD
      go_wp2_with fail
      refine HI.out.mono ?_
      rintro e w2 ⟨u, rfl, hou, hb2⟩
      rw [List.map_map] at hou
      have HB2 := Lib.hid (bel_both HBL.out hb2)
      have HK2 := Lib.hid (show w2.heap[w.heap.size]? = some (.cells zcells 32) by rw [hb2.block _ (boxed_of HK.out).1.lt]; exact HK.out)
      have HU := Lib.hid (hou.lower (show w.heap.size + 1 ≤ wr.heap.size from (boxed_of HK.out).1.lt))
      obtain ⟨ua, un, uc, hu⟩ : ∃ a n c, u = .slice a n c := by obtain ⟨a, c, e⟩ := hou.reads.len; exact ⟨a, _, c, e⟩
      subst hu
      clear hb2 hou
      have HB3 := Lib.hid (HB2.out.alloc HB2.out.size (.cells #[.int .i64 3, vnil, .int .i64 0, vnil, .slice ua un uc, vnil, vnil, vnil] 32))
      have HK3 := Lib.hid (show (w2.alloc (.cells #[.int .i64 3, vnil, .int .i64 0, vnil, .slice ua un uc, vnil, vnil, vnil] 32)).heap[w.heap.size]? = some (.cells zcells 32) by rw [Below.heap_alloc _ _ _ (boxed_of HK2.out).1.lt]; exact HK2.out)
      have HU3 := Lib.hid (HU.out.alloc (.cells #[.int .i64 3, vnil, .int .i64 0, vnil, .slice ua un uc, vnil, vnil, vnil] 32))
      have HS3 := Lib.hid (HS.out _ _ HB3.out HU3.out)
      go_wp2_with fail
      refine HS3.out.mono ?_
      rintro e w4 ⟨k4, b4, bn4, s4, i4, f4, c4, x4, rfl, hk4, hb4⟩
      have HB4 := Lib.hid (bel_both HB3.out hb4)
      have HK4 := Lib.hid (show w4.heap[w.heap.size]? = some (.cells zcells 32) by rw [hb4.block _ (boxed_of HK3.out).1.lt]; exact HK3.out)
      have HKE := Lib.hid hk4
      clear hb4 hk4
      obtain ⟨⟨h0, h1, h2, h3, h4, h5, h6, h7⟩, hz⟩ := boxed_of HK4.out
      go_wp2
      refine bodyPost_ret (v := .tuple #[vecW k4 b4 bn4 s4 i4 f4 c4 x4, .bool true]) ?_ rfl ⟨k4, b4, bn4, s4, i4, f4, c4, x4, rfl, (HKE.out.set8 (.inr rfl) _ _ _ _ _ _ _ _).sub (fun _ _ e => .inl e), below_set8 HB4.out (Nat.le_refl _) _ _ _ _ _ _ _ _⟩
      exact ret_vec2 (fn := Tryz.f35) (p := 10) (u := 11) rfl _ _ w.heap.size (by rfl) (set8_block HK4.out _ _ _ _ _ _ _ _)
end Go.Proofs.YtdddmehchfnppaaGreatDoor
namespace Go.Proofs.YtdddmehchfnppaaGreatDoor
open Go Go.RowKit Go.Proofs Fl

set_option maxRecDepth 100000 in
set_option maxHeartbeats 1000000 in
theorem scan_unknown (q : Int) (hq : knownB q = false) (k : Int) (b : Value) (bn : Int) (s i f c x : Value) (o n r : Int) (w : World) :
    Calls Tryz.prog 9 #[.int .i64 q, vecV k b bn s i f c x, .int .i64 o, .int .i64 n, .int .i64 r] w fun e w' => e = .returned (.tuple #[vecV 0 vnil 0 vnil vnil vnil vnil vnil, .int .i64 1]) ∧ Below w.heap.size w w' := by
  have HK := Lib.hid (fun W => hq ▸ known_any q W)
  have HS := Lib.hid (St.new w k b bn s i f c x)
  clear hq
  go_enter Tryz.func9, Tryz.ntmps9
  go_wp2_with fail
  refine (HK.out _).mono ?_
  rintro e w1 ⟨rfl, hw⟩
  rw [hw] at HS
  clear hw
  obtain ⟨⟨h0, h1, h2, h3, h4, h5, h6, h7⟩, hz⟩ := boxed_of HS.out.res
  go_wp2
  refine bodyPost_ret (v := .tuple #[vecV 0 vnil 0 vnil vnil vnil vnil vnil, .int .i64 1]) ?_ rfl ⟨rfl, below_set8 HS.out.bel (Nat.le_succ _) _ _ _ _ _ _ _ _⟩
  exact ret_vec2 (fn := Tryz.f9) (p := 10) (u := 11) rfl _ _ (w.heap.size + 1) (by rfl) (set8_block HS.out.res _ _ _ _ _ _ _ _)

set_option maxRecDepth 100000 in
set_option maxHeartbeats 1000000 in
theorem scan_chars_dom (q : Int) (hq : knownB q = true) (b : Value) (bn : Int) (s i f c x : Value) (o n r : Int) (ho : 0 ≤ o) (hr : 0 ≤ r) (h1 : 1 < n) (w : World) :
    Calls Tryz.prog 9 #[.int .i64 q, vecV 5 b bn s i f c x, .int .i64 o, .int .i64 n, .int .i64 r] w fun e w' => e = .returned (.tuple #[vecV 0 vnil 0 vnil vnil vnil vnil vnil, .int .i64 24]) ∧ Below w.heap.size w w' := by
  have HK := Lib.hid (fun W => hq ▸ known_any q W)
  have HS := Lib.hid (St.new w 5 b bn s i f c x)
  have HC := Lib.hid (fun W => class_5 b bn s i f c x W)
  have o1 : ¬ o < 0 := by omega
  have n1 : ¬ n < 0 := by omega
  have r1 : ¬ r < 0 := by omega
  clear hq ho hr
  go_enter Tryz.func9, Tryz.ntmps9
  go_wp2_with fail
  refine (HK.out _).mono ?_
  rintro e w1 ⟨rfl, hw⟩
  rw [hw] at HS
  clear hw
  obtain ⟨h0, h1, h2, h3, h4, h5, h6, h7⟩ := HS.out.box
  go_wp2_with fail
  refine (HC.out _).mono ?_
  rintro e w2 ⟨rfl, hb2⟩
  have HS2 := Lib.hid (HS.out.step hb2)
  clear hb2 h0 h1 h2 h3 h4 h5 h6 h7 HS
  have HSE := HS2
  obtain ⟨⟨h0, h1, h2, h3, h4, h5, h6, h7⟩, hz⟩ := boxed_of HSE.out.res
  go_wp2
  refine bodyPost_ret (v := .tuple #[vecV 0 vnil 0 vnil vnil vnil vnil vnil, .int .i64 24]) ?_ rfl ⟨rfl, below_set8 HSE.out.bel (Nat.le_succ _) _ _ _ _ _ _ _ _⟩
  exact ret_vec2 (fn := Tryz.f9) (p := 10) (u := 11) rfl _ _ (w.heap.size + 1) (by rfl) (set8_block HSE.out.res _ _ _ _ _ _ _ _)

set_option maxRecDepth 100000 in
set_option maxHeartbeats 1000000 in
theorem scan_boxes_dom (q : Int) (hq : knownB q = true) (b : Value) (bn : Int) (s i f c x : Value) (o n r : Int) (ho : 0 ≤ o) (hn : 0 ≤ n) (hr : 0 ≤ r) (h1 : n = 1) (w : World) :
    Calls Tryz.prog 9 #[.int .i64 q, vecV 6 b bn s i f c x, .int .i64 o, .int .i64 n, .int .i64 r] w fun e w' => e = .returned (.tuple #[vecV 0 vnil 0 vnil vnil vnil vnil vnil, .int .i64 24]) ∧ Below w.heap.size w w' := by
  have HK := Lib.hid (fun W => hq ▸ known_any q W)
  have HS := Lib.hid (St.new w 6 b bn s i f c x)
  have HC := Lib.hid (fun W => class_6 b bn s i f c x W)
  have o1 : ¬ o < 0 := by omega
  have r1 : ¬ r < 0 := by omega
  subst h1
  clear hq ho hn hr
  go_enter Tryz.func9, Tryz.ntmps9
  go_wp2_with fail
  refine (HK.out _).mono ?_
  rintro e w1 ⟨rfl, hw⟩
  rw [hw] at HS
  clear hw
  obtain ⟨h0, h1, h2, h3, h4, h5, h6, h7⟩ := HS.out.box
  go_wp2_with fail
  refine (HC.out _).mono ?_
  rintro e w2 ⟨rfl, hb2⟩
  have HS2 := Lib.hid (HS.out.step hb2)
  clear hb2 h0 h1 h2 h3 h4 h5 h6 h7 HS
  obtain ⟨h0, h1, h2, h3, h4, h5, h6, h7⟩ := HS2.out.box
  go_wp2_with fail
  refine (HC.out _).mono ?_
  rintro e w3 ⟨rfl, hb3⟩
  have HSE := Lib.hid (HS2.out.step hb3)
  clear hb3 h0 h1 h2 h3 h4 h5 h6 h7 HS2
  obtain ⟨⟨h0, h1, h2, h3, h4, h5, h6, h7⟩, hz⟩ := boxed_of HSE.out.res
  go_wp2
  refine bodyPost_ret (v := .tuple #[vecV 0 vnil 0 vnil vnil vnil vnil vnil, .int .i64 24]) ?_ rfl ⟨rfl, below_set8 HSE.out.bel (Nat.le_succ _) _ _ _ _ _ _ _ _⟩
  exact ret_vec2 (fn := Tryz.f9) (p := 10) (u := 11) rfl _ _ (w.heap.size + 1) (by rfl) (set8_block HSE.out.res _ _ _ _ _ _ _ _)


set_option maxRecDepth 100000 in
set_option maxHeartbeats 1000000 in
theorem scan_chars_one (q : Int) (hq : knownB q = true) (b : Value) (bn : Int) (s i f x : Value) (p : Option Addr) (m d : Nat) (o n r : Int) (ho : 0 ≤ o) (hn : 0 ≤ n) (hle : n ≤ 1) (hr : 0 ≤ r) (hb : b = vnil) (hs : s = vnil) (hi : i = vnil) (hf : f = vnil) (hx : x = vnil) (w : World) :
    Calls Tryz.prog 9 #[.int .i64 q, vecV 5 b bn s i f (.slice p m d) x, .int .i64 o, .int .i64 n, .int .i64 r] w fun e w' => e = .returned (.tuple #[vecV 5 b bn s i f (.slice p m d) x, .int .i64 0]) ∧ Below w.heap.size w w' := by
  subst hb hs hi hf hx
  have HK := Lib.hid (fun W => hq ▸ known_any q W)
  have HS := Lib.hid (St.new w 5 vnil bn vnil vnil vnil (.slice p m d) vnil)
  have HC := Lib.hid (fun W => class_5 vnil bn vnil vnil vnil (.slice p m d) vnil W)
  have o1 : ¬ o < 0 := by omega
  have r1 : ¬ r < 0 := by omega
  have n1 : ¬ n < 0 := by omega
  have n2 : ¬ 1 < n := by omega
  clear hq ho hr hn hle
  go_enter Tryz.func9, Tryz.ntmps9
  go_wp2_with fail
  refine (HK.out _).mono ?_
  rintro e w1 ⟨rfl, hw⟩
  rw [hw] at HS
  clear hw
  obtain ⟨h0, h1, h2, h3, h4, h5, h6, h7⟩ := HS.out.box
  go_wp2_with fail
  refine (HC.out _).mono ?_
  rintro e w2 ⟨rfl, hb2⟩
  have HS2 := Lib.hid (HS.out.step hb2)
  clear hb2 h0 h1 h2 h3 h4 h5 h6 h7 HS
  obtain ⟨h0, h1, h2, h3, h4, h5, h6, h7⟩ := HS2.out.box
  go_wp2_with fail
  refine (HC.out _).mono ?_
  rintro e w3 ⟨rfl, hb3⟩
  have HSE := Lib.hid (HS2.out.step hb3)
  clear hb3 h0 h1 h2 h3 h4 h5 h6 h7 HS2
  obtain ⟨h0, h1, h2, h3, h4, h5, h6, h7⟩ := HSE.out.box
  obtain ⟨⟨g0, g1, g2, g3, g4, g5, g6, g7⟩, hz⟩ := boxed_of HSE.out.res
  go_wp2
  refine bodyPost_ret (v := .tuple #[vecV 5 vnil bn vnil vnil vnil (.slice p m d) vnil, .int .i64 0]) ?_ rfl ⟨rfl, below_set8 HSE.out.bel (Nat.le_succ _) _ _ _ _ _ _ _ _⟩
  exact ret_vec2 (fn := Tryz.f9) (p := 10) (u := 11) rfl _ _ (w.heap.size + 1) (by rfl) (set8_block HSE.out.res _ _ _ _ _ _ _ _)
end Go.Proofs.YtdddmehchfnppaaGreatDoor
namespace Go.Proofs.YtdddmehchfnppaaGreatDoor
open Go Go.RowKit Go.Proofs Fl

set_option maxRecDepth 100000 in
set_option maxHeartbeats 400000 in
theorem scan_wholes (H : Nat → Prop) (R : Value → World → Prop) (P : World → Value → Prop) (q : Int) (hq : knownB q = true) (k : Int) (b : Value) (bn : Int) (s i f c x : Value) (o n r : Int) (ho : 0 ≤ o) (hn : 2 ≤ n) (hr : 0 ≤ r) (w : World)
    (hcl : ∀ W, Calls Tryz.prog 31 #[vecV k b bn s i f c x] W fun e w' => e = .returned (.int .i64 0) ∧ Below W.heap.size W w')
    (hk : k ≠ 1)
    (hP : ∀ W W' v, P W v → Below W.heap.size W W' → P W' v)
    (hwh : ∀ W, Below w.heap.size w W → Calls Tryz.prog 34 #[vecV k b bn s i f c x] W (SlTrue P W))
    (hfw : ∀ W v, Below w.heap.size w W → P W v → Calls Tryz.prog 35 #[.int .i64 q, v, .int .i64 o, .int .i64 n, .int .i64 r] W (Vec2R (Hole H w W) W R)) :
    Calls Tryz.prog 9 #[.int .i64 q, vecV k b bn s i f c x, .int .i64 o, .int .i64 n, .int .i64 r] w (VecOk H w R) := by
  have HK := Lib.hid (fun W => hq ▸ known_any q W)
  have HS := Lib.hid (St.new w k b bn s i f c x)
  have HC := Lib.hid hcl
  have HPK := Lib.hid (fun W => packed_no k hk b bn s i f c x W)
  have HP := Lib.hid hP
  have HWH := Lib.hid hwh
  have HFW := Lib.hid hfw
  have o1 : ¬ o < 0 := by omega
  have n1 : ¬ n < 0 := by omega
  have r1 : ¬ r < 0 := by omega
  have e0 : ¬ n ≤ 1 := by omega
  clear hq ho hn hr hcl hk hP hwh hfw
  go_enter Tryz.func9, Tryz.ntmps9
  go_wp2_with fail
  refine (HK.out _).mono ?_
  rintro e w1 ⟨rfl, hw⟩
  rw [hw] at HS
  clear hw
  obtain ⟨h0, h1, h2, h3, h4, h5, h6, h7⟩ := HS.out.box
  go_wp2_with fail
  refine (HC.out _).mono ?_
  rintro e w2 ⟨rfl, hb2⟩
  have HS2 := Lib.hid (HS.out.step hb2)
  clear hb2 h0 h1 h2 h3 h4 h5 h6 h7 HS
  obtain ⟨h0, h1, h2, h3, h4, h5, h6, h7⟩ := HS2.out.box
  go_wp2_with fail
  refine (HPK.out _).mono ?_
  rintro e w3 ⟨rfl, hb3⟩
  have HS3 := Lib.hid (HS2.out.step hb3)
  clear hb3 h0 h1 h2 h3 h4 h5 h6 h7 HS2
  obtain ⟨h0, h1, h2, h3, h4, h5, h6, h7⟩ := HS3.out.box
  have z3 : w.heap.size < w3.heap.size := HS3.out.box.lt
  have z3' : w.heap.size + 1 < w3.heap.size := HS3.out.sz
  have HS3' := Lib.hid (HS3.out.step (bel1 w3 (.cells #[vnil, .int .i64 0] 26)))
  have HWH3 := Lib.hid (HWH.out _ HS3'.out.bel)
  go_wp2_with fail
  refine HWH3.out.mono ?_
  rintro e w4 ⟨a4, n4, c4, rfl, hp4, hb4⟩
  have HS4 := Lib.hid (HS3'.out.step hb4)
  have HFW4 := Lib.hid (HFW.out _ _ HS4.out.bel hp4)
  clear hb4 hp4 h0 h1 h2 h3 h4 h5 h6 h7 HS3 HS3'
  go_wp2_with fail
  refine HFW4.out.mono ?_
  rintro e w5 ⟨k5, b5, bn5, s5, i5, f5, c5, x5, rfl, hk5, hb5⟩
  have HS5 := Lib.hid (HS4.out.step hb5)
  have HK5 := Lib.hid (hk5.sub (H' := fun j => H j ∨ j = w.heap.size + 1) fun j _ e => e.imp id fun e => by have := HS4.out.sz; omega)
  clear hb5 hk5 z3 z3'
  have z5 : w.heap.size < w5.heap.size := HS5.out.box.lt
  have z5' : w.heap.size + 1 < w5.heap.size := HS5.out.sz
  have HKE := Lib.hid ((HK5.out.set8 (.inr rfl) (.int .i64 k5) (.slice b5.1 b5.2.1 b5.2.2) (.int .i64 bn5) (.slice s5.1 s5.2.1 s5.2.2) (.slice i5.1 i5.2.1 i5.2.2) (.slice f5.1 f5.2.1 f5.2.2) (.slice c5.1 c5.2.1 c5.2.2) (.slice x5.1 x5.2.1 x5.2.2)).sub (H' := H) fun _ _ e => .inl e)
  have HBE := Lib.hid (below_set8 HS5.out.bel (Nat.le_succ _) (.int .i64 k5) (.slice b5.1 b5.2.1 b5.2.2) (.int .i64 bn5) (.slice s5.1 s5.2.1 s5.2.2) (.slice i5.1 i5.2.1 i5.2.2) (.slice f5.1 f5.2.1 f5.2.2) (.slice c5.1 c5.2.1 c5.2.2) (.slice x5.1 x5.2.1 x5.2.2))
  have HRE := Lib.hid (set8_block HS5.out.res (.int .i64 k5) (.slice b5.1 b5.2.1 b5.2.2) (.int .i64 bn5) (.slice s5.1 s5.2.1 s5.2.2) (.slice i5.1 i5.2.1 i5.2.2) (.slice f5.1 f5.2.1 f5.2.2) (.slice c5.1 c5.2.1 c5.2.2) (.slice x5.1 x5.2.1 x5.2.2))
  obtain ⟨⟨h0, h1, h2, h3, h4, h5, h6, h7⟩, hz⟩ := boxed_of HS5.out.res
  go_wp2
  refine bodyPost_ret (v := .tuple #[vecW k5 b5 bn5 s5 i5 f5 c5 x5, .int .i64 0]) ?_ rfl ⟨k5, b5, bn5, s5, i5, f5, c5, x5, rfl, HKE.out.step (bel1 _ _), bel_both HBE.out (bel1 _ _)⟩
  exact ret_vec2 (fn := Tryz.f9) (p := 10) (u := 11) rfl _ _ (w.heap.size + 1) (by rfl) ((Below.heap_alloc _ _ _ (lt_of_block HRE.out)).trans HRE.out)
end Go.Proofs.YtdddmehchfnppaaGreatDoor
namespace Go.Proofs.YtdddmehchfnppaaGreatDoor
open Go Go.RowKit Go.Proofs Fl

/-- scan.Scan at eight-bit numbers whose lines come to eight-bit numbers, not to truths alone -/
theorem scan_small (H : Nat → Prop) (q : Int) (hq : knownB q = true) (w : World) (hH : ∀ b, H b → b < w.heap.size) (s : Value) (outer n inner T : Nat) (L Z : Nat → Int) (hT : T = outer * n * inner)
    (hr : Reads1 w s ((List.range T).map fun j => .int .i8 (L j))) (hL : ∀ j, j < T → -128 ≤ L j ∧ L j ≤ 127)
    (hn : 2 ≤ n) (hb1 : outer ≤ 1000) (hb2 : n ≤ 1000) (hb3 : inner ≤ 1000) (hbT : T ≤ 1000000) (hpos : 0 < T)
    (hline : ∀ b o0 c g B W F o k, o < outer → k < inner → Row64 W B g T F → b ≠ g → (∀ i, i < T → W.cell? ⟨b, o0 + i, none⟩ = some (.int .i64 (L i))) →
      Calls Tryz.prog 72 #[.int .i64 q, .slice (some ⟨b, o0, none⟩) T c, .slice (some ⟨g, 0, none⟩) T T, .int .i64 ((o * n * inner + k : Nat) : Int), .int .i64 (n : Int), .int .i64 (inner : Int)] W (LineR W B g T (o * n * inner + k) n inner Z F))
    (hg : ∀ j, j < T → -128 ≤ Z j ∧ Z j ≤ 127)
    (h2 : leastS Z T = 2) :
    Calls Tryz.prog 9 #[.int .i64 q, vecV 2 vnil 0 s vnil vnil vnil vnil, .int .i64 (outer : Int), .int .i64 (n : Int), .int .i64 (inner : Int)] w (VecOk H w (Small8 T Z)) := by
  refine scan_wholes H _ (fun W v => Reads1 W v ((List.range T).map fun j => .int .i64 (L j))) q hq 2 vnil 0 s vnil vnil vnil vnil _ _ _ (by omega) (by omega) (by omega) w (fun W => class_2 _ _ _ _ _ _ _ _) (by decide)
    (fun W W' v h hb => h.below hb) (fun W hb => ?_) (fun W v hb hv => ?_)
  · obtain ⟨a, c, rfl, hc⟩ := reads_at hr
    refine (wholes_small vnil 0 (.slice a T c) vnil vnil vnil vnil T L W (by omega) (fun w' _ => len_2 _ _ _ _ _ _ _ _ _ _) (fun w' h' j hj => ?_)).mono ?_
    · obtain ⟨b, o, rfl, hcell⟩ := hc j hj
      exact vwhole_2 _ _ _ _ _ _ _ _ _ _ _ hj _ (hL j hj).1 (hL j hj).2 w' (by rw [(bel_both hb h').cell (cell_lt hcell)]; exact hcell)
    · rintro e w' ⟨g, rfl, ho, hb2⟩
      exact ⟨_, _, _, rfl, ho.reads, hb2⟩
  · obtain ⟨a, c, rfl, hc⟩ := reads_at hv
    obtain ⟨b, o0, rfl, hc0⟩ := hc 0 (by omega)
    have hblt : b < W.heap.size := cell_lt hc0
    refine swholes_done (Hole H w W) _ q _ c T outer n inner Z W hT hb1 hb2 hb3 hbT (fun o k W2 F ho hk hb2 hrow => ?_) (fun j hj => by have := hg j hj; exact ⟨by omega, by omega⟩) (fun W2 u hb2 hu => ?_)
    · refine hline b o0 c (W.heap.size + 1) (W.heap.size + 1) W2 F o k ho hk hrow (by omega) (fun i hi2 => ?_)
      obtain ⟨b', o', e, hcell⟩ := hc i hi2
      injection e with e
      injection e with e1 e2 _
      subst e1; subst e2
      rw [hb2.cell (cell_lt hcell)]
      exact hcell
    · have hwW : w.heap.size ≤ W.heap.size := hb.size
      refine squeeze_small _ W2 u T Z (fun b0 hb0 => ?_) hu.reads hbT hg h2
      have := hb2.size
      rcases hb0 with (e | e) | e
      · have := hH b0 e; omega
      · omega
      · have hlt : W.heap.size < W2.heap.size := by
          rcases hu.2 with ⟨_, h0⟩ | ⟨g, cap, cur, hv, hbg, hg, _⟩
          · have : T = 0 := by simpa using h0
            omega
          · have := lt_of_block hg
            omega
        omega

set_option maxRecDepth 100000 in
set_option maxHeartbeats 1000000 in
/-- kept, where the numbers fit the store -/
theorem kept_yes14 (H : Nat → Prop) (R : Value → World → Prop) (P : World → Sl → Prop) (v : Value) (kind : Int) (w : World)
    (hP : ∀ W W' s, P W s → Below W.heap.size W W' → P W' s)
    (hf : ∀ W, Below w.heap.size w W → Calls Tryz.prog 29 #[v] W fun e w' => ∃ s : Sl, e = .returned (.tuple #[vecV 4 vnil 0 vnil vnil (.slice s.1 s.2.1 s.2.2) vnil vnil, .bool true]) ∧ P w' s ∧ Below W.heap.size W w')
    (hin : ∀ W s, Below w.heap.size w W → P W s → Calls Tryz.prog 30 #[vecV 4 vnil 0 vnil vnil (.slice s.1 s.2.1 s.2.2) vnil vnil, .int .i64 kind] W (IntoR H w W R)) :
    Calls Tryz.prog 7 #[v, .int .i64 kind] w (Vec2R H w R) := by
  have HP := Lib.hid hP
  have HF := Lib.hid hf
  have HI := Lib.hid hin
  clear hP hf hin
  go_enter Tryz.func7, Tryz.ntmps7
  go_wp2_with fail
  refine (HF.out _ (bel1 w _)).mono ?_
  rintro e w1 ⟨s, rfl, hp, hb1⟩
  have HB1 := Lib.hid (bel_both (bel1 w _) hb1)
  have HK1 := Lib.hid (block_up hb1)
  have HB2 := Lib.hid (bel_both HB1.out (bel1 w1 (.cells #[.int .i64 4, vnil, .int .i64 0, vnil, vnil, .slice s.1 s.2.1 s.2.2, vnil, vnil] 32)))
  have HI2 := Lib.hid (HI.out _ s HB2.out (HP.out _ _ _ hp (bel1 w1 (.cells #[.int .i64 4, vnil, .int .i64 0, vnil, vnil, .slice s.1 s.2.1 s.2.2, vnil, vnil] 32))))
  clear hb1 hp
  go_wp2_with fail
  refine HI2.out.mono ?_
  rintro e w2 ⟨k5, b5, bn5, s5, i5, f5, c5, x5, rfl, hk5, hb5⟩
  have HB5 := Lib.hid (bel_both HB2.out hb5)
  have HV5 := Lib.hid (block_up hb5)
  have HK5 := Lib.hid (show w2.heap[w.heap.size]? = some (.cells zcells 32) by
    rw [hb5.block _ (by have := lt_of_block HK1.out; simp; omega), Below.heap_alloc _ _ _ (lt_of_block HK1.out)]; exact HK1.out)
  have HKE := Lib.hid hk5
  have z1 : w.heap.size < w1.heap.size := lt_of_block HK1.out
  have z2 : w1.heap.size < w2.heap.size := lt_of_block HV5.out
  have z3 : w.heap.size < w2.heap.size := lt_of_block HK5.out
  clear hb5 hk5
  obtain ⟨⟨h0, h1, h2, h3, h4, h5, h6, h7⟩, hz⟩ := boxed_of HV5.out
  obtain ⟨⟨g0, g1, g2, g3, g4, g5, g6, g7⟩, gz⟩ := boxed_of HK5.out
  have hzs : (w1.alloc (.cells #[.int .i64 4, vnil, .int .i64 0, vnil, vnil, .slice s.1 s.2.1 s.2.2, vnil, vnil] 32)).heap.size = w1.heap.size + 1 := by simp
  have HZ := Lib.hid hzs
  clear hzs
  have HKX := Lib.hid (((HKE.out.set8 (G := w1.heap.size) (.inr ⟨by omega, by rw [HZ.out]; omega⟩) (.int .i64 k5) (.slice b5.1 b5.2.1 b5.2.2) (.int .i64 bn5) (.slice s5.1 s5.2.1 s5.2.2) (.slice i5.1 i5.2.1 i5.2.2) (.slice f5.1 f5.2.1 f5.2.2) (.slice c5.1 c5.2.1 c5.2.2) (.slice x5.1 x5.2.1 x5.2.2)).set8 (G := w.heap.size) (.inr ⟨by omega, by rw [HZ.out]; omega⟩) (.int .i64 k5) (.slice b5.1 b5.2.1 b5.2.2) (.int .i64 bn5) (.slice s5.1 s5.2.1 s5.2.2) (.slice i5.1 i5.2.1 i5.2.2) (.slice f5.1 f5.2.1 f5.2.2) (.slice c5.1 c5.2.1 c5.2.2) (.slice x5.1 x5.2.1 x5.2.2)).sub (H' := H) fun _ _ e => .inl e)
  have HBX := Lib.hid (below_set8 (below_set8 HB5.out (Nat.le_of_lt z1) (.int .i64 k5) (.slice b5.1 b5.2.1 b5.2.2) (.int .i64 bn5) (.slice s5.1 s5.2.1 s5.2.2) (.slice i5.1 i5.2.1 i5.2.2) (.slice f5.1 f5.2.1 f5.2.2) (.slice c5.1 c5.2.1 c5.2.2) (.slice x5.1 x5.2.1 x5.2.2)) (Nat.le_refl _) (.int .i64 k5) (.slice b5.1 b5.2.1 b5.2.2) (.int .i64 bn5) (.slice s5.1 s5.2.1 s5.2.2) (.slice i5.1 i5.2.1 i5.2.2) (.slice f5.1 f5.2.1 f5.2.2) (.slice c5.1 c5.2.1 c5.2.2) (.slice x5.1 x5.2.1 x5.2.2))
  have HRX := Lib.hid (set8_block (show (set8 w2 w1.heap.size (.int .i64 k5) (.slice b5.1 b5.2.1 b5.2.2) (.int .i64 bn5) (.slice s5.1 s5.2.1 s5.2.2) (.slice i5.1 i5.2.1 i5.2.2) (.slice f5.1 f5.2.1 f5.2.2) (.slice c5.1 c5.2.1 c5.2.2) (.slice x5.1 x5.2.1 x5.2.2)).heap[w.heap.size]? = some (.cells zcells 32) by rw [set8_heap _ _ _ (by omega)]; exact HK5.out) (.int .i64 k5) (.slice b5.1 b5.2.1 b5.2.2) (.int .i64 bn5) (.slice s5.1 s5.2.1 s5.2.2) (.slice i5.1 i5.2.1 i5.2.2) (.slice f5.1 f5.2.1 f5.2.2) (.slice c5.1 c5.2.1 c5.2.2) (.slice x5.1 x5.2.1 x5.2.2))
  go_wp2
  refine bodyPost_ret (v := .tuple #[vecW k5 b5 bn5 s5 i5 f5 c5 x5, .bool true]) ?_ rfl ⟨k5, b5, bn5, s5, i5, f5, c5, x5, rfl, HKX.out.step (bel1 _ _), bel_both HBX.out (bel1 _ _)⟩
  exact ret_vec2 (fn := Tryz.f7) (p := 4) (u := 5) rfl _ _ w.heap.size (by rfl) ((Below.heap_alloc _ _ _ (lt_of_block HRX.out)).trans HRX.out)
/-- kept at whole numbers that fit eight bits -/
theorem kept_small14 (v : Value) (n : Nat) (l : Nat → Int) (w : World) (hn : n ≤ 1000000) (h0 : 0 < n) (hr : Reads1 w v ((List.range n).map fun j => .float .f64 (fi (l j)))) (hl : ∀ j, j < n → -128 ≤ l j ∧ l j ≤ 127) :
    Calls Tryz.prog 7 #[v, .int .i64 2] w (Got8 n l (.bool true) w) := by
  obtain ⟨a, c, rfl, hc⟩ := reads_at hr
  obtain ⟨b, o, rfl, _⟩ := hc 0 h0
  have hg : ∀ j, j < n → Good (l j) := fun j hj => by have := hl j hj; exact ⟨by omega, by omega⟩
  refine (kept_yes14 (fun _ => False) (Small8 n l) (fun W s => Reads1 W (.slice s.1 s.2.1 s.2.2) ((List.range n).map fun j => .float .f64 (fi (l j)))) _ 2 w (fun W W' s h hb => h.below hb) (fun W hb => ?_) (fun W s hb hp => ?_)).mono got8_vec2
  · refine (floats_walk b o n c (fun i => fi (l i)) (fun i => fi (l i)) hn W (fun i hi => ?_) (fun i hi W' => tidy_fi _ (hg i hi) W')).mono ?_
    · obtain ⟨b', o', e, hcell⟩ := hc i hi
      injection e with e
      injection e with e1 e2 _
      subst e1; subst e2
      rw [hb.cell (cell_lt hcell)]
      exact hcell
    · rintro e w' ⟨u, rfl, ho, hb2⟩
      obtain ⟨a, m, c', rfl⟩ : ∃ a m c', u = .slice a m c' := by obtain ⟨a, c, e⟩ := ho.reads.len; exact ⟨a, _, c, e⟩
      exact ⟨(a, m, c'), rfl, ho.reads, hb2⟩
  · exact into_small _ w W (fun _ e => e.elim) hb 4 (by decide) (by decide) _ _ _ _ _ _ _ n l (wholesOf_floats hp hg) (fun w' _ => class_4 _ _ _ _ _ _ _ _) hn hl

end Go.Proofs.YtdddmehchfnppaaGreatDoor
namespace Go.Proofs.YtdddmehchfnppaaGreatDoor
open Go Go.RowKit Go.Proofs Fl

theorem sx_at3 (l : List Int) (P : Int → Prop) (h0 : P (l.getD 0 0)) (h1 : P (l.getD 1 0)) (h2 : P (l.getD 2 0)) (j : Nat) (h : j < 3) : P (l.getD j 0) := by
  match j, h with
  | 0, _ => exact h0
  | 1, _ => exact h1
  | 2, _ => exact h2
theorem sx_l3_small (j : Nat) (h : j < 3) : -128 ≤ ([1, 2, 3] : List Int).getD j 0 ∧ ([1, 2, 3] : List Int).getD j 0 ≤ 127 := sx_at3 [1, 2, 3] (fun z => -128 ≤ z ∧ z ≤ 127) (by decide) (by decide) (by decide) j h
theorem sx_small1 (j : Nat) (h : j < 3) : -128 ≤ ([1, 3, 6] : List Int).getD j 0 ∧ ([1, 3, 6] : List Int).getD j 0 ≤ 127 := sx_at3 [1, 3, 6] (fun z => -128 ≤ z ∧ z ≤ 127) (by decide) (by decide) (by decide) j h
theorem sx_small2 (j : Nat) (h : j < 3) : -128 ≤ ([1, -1, 2] : List Int).getD j 0 ∧ ([1, -1, 2] : List Int).getD j 0 ≤ 127 := sx_at3 [1, -1, 2] (fun z => -128 ≤ z ∧ z ≤ 127) (by decide) (by decide) (by decide) j h
theorem sx_good1 (j : Nat) (h : j < 3) : Good (([1, 3, 6] : List Int).getD j 0) := sx_at3 [1, 3, 6] Good (by decide) (by decide) (by decide) j h
theorem sx_good2 (j : Nat) (h : j < 3) : Good (([1, -1, 2] : List Int).getD j 0) := sx_at3 [1, -1, 2] Good (by decide) (by decide) (by decide) j h
theorem sx_fi_6 : (4618441417868443648 : Nat) = fi 6 := by decide +kernel

theorem sx_lt3 {P : Nat → Prop} (h0 : P 0) (h1 : P 1) (h2 : P 2) (i : Nat) (h : i < 3) : P i := by
  match i, h with
  | 0, _ => exact h0
  | 1, _ => exact h1
  | 2, _ => exact h2
theorem sx_le3 {P : Nat → Prop} (h0 : P 0) (h1 : P 1) (h2 : P 2) (h3 : P 3) (i : Nat) (h : i ≤ 3) : P i := by
  match i, h with
  | 0, _ => exact h0
  | 1, _ => exact h1
  | 2, _ => exact h2
  | 3, _ => exact h3

theorem scan_ex1 (a : Option Addr) (c : Nat) (w : World) (hr : Reads1 w (.slice a 3 c) ((List.range 3).map fun j => .int .i8 (([1, 2, 3] : List Int).getD j 0))) :
    Calls Tryz.prog 9 #[.int .i64 1, vecV 2 vnil 0 (.slice a 3 c) vnil vnil vnil vnil, .int .i64 1, .int .i64 3, .int .i64 1] w (Got8 3 (fun j => ([1, 3, 6] : List Int).getD j 0) (.int .i64 0) w) := by
  have h := scan_small (fun _ => False) 1 (by decide) w (fun _ e => e.elim) (.slice a 3 c) 1 3 1 3 (fun j => ([1, 2, 3] : List Int).getD j 0) (fun j => ([1, 3, 6] : List Int).getD j 0) rfl hr sx_l3_small (by decide) (by decide) (by decide) (by decide) (by decide) (by decide)
    (fun b o0 c g B W F o k ho hk hrow hbg hc => by
      obtain rfl : o = 0 := by omega
      obtain rfl : k = 0 := by omega
      exact line_add b o0 c 3 g B 0 3 1 (fun j => ([1, 2, 3] : List Int).getD j 0) (fun j => ([1, 3, 6] : List Int).getD j 0) F (fun i => ([0, 1, 3, 6] : List Int).getD i 0) W (by decide) (by decide) hrow hbg hc (by intro i hi; omega)
        (fun j h => sx_at3 [1, 2, 3] Good (by decide) (by decide) (by decide) j h) rfl (sx_lt3 rfl rfl rfl) (sx_le3 (by decide) (by decide) (by decide) (by decide)) (fun i => ([0, 1, 3, 6] : List Int).getD i 0) rfl (sx_lt3 rfl rfl rfl) (sx_le3 (by decide) (by decide) (by decide) (by decide)) (sx_lt3 rfl rfl rfl))
    sx_small1 (by decide)
  exact h.mono fun e w' h' => got8_ok e w' h'

theorem scan_ex2 (a : Option Addr) (c : Nat) (w : World) (hr : Reads1 w (.slice a 3 c) ((List.range 3).map fun j => .int .i8 (([1, 2, 3] : List Int).getD j 0))) :
    Calls Tryz.prog 9 #[.int .i64 2, vecV 2 vnil 0 (.slice a 3 c) vnil vnil vnil vnil, .int .i64 1, .int .i64 3, .int .i64 1] w (Got8 3 (fun j => ([1, -1, 2] : List Int).getD j 0) (.int .i64 0) w) := by
  have h := scan_small (fun _ => False) 2 (by decide) w (fun _ e => e.elim) (.slice a 3 c) 1 3 1 3 (fun j => ([1, 2, 3] : List Int).getD j 0) (fun j => ([1, -1, 2] : List Int).getD j 0) rfl hr sx_l3_small (by decide) (by decide) (by decide) (by decide) (by decide) (by decide)
    (fun b o0 c g B W F o k ho hk hrow hbg hc => by
      obtain rfl : o = 0 := by omega
      obtain rfl : k = 0 := by omega
      exact line_sub b o0 c 3 g B 0 3 1 (fun j => ([1, 2, 3] : List Int).getD j 0) (fun j => ([1, -1, 2] : List Int).getD j 0) F (fun i => ([0, 1, 3, 6] : List Int).getD i 0) W (by decide) (by decide) hrow hbg hc (by intro i hi; omega)
        (fun j h => sx_at3 [1, 2, 3] Good (by decide) (by decide) (by decide) j h) rfl (sx_lt3 rfl rfl rfl) (sx_le3 (by decide) (by decide) (by decide) (by decide)) (fun i => ([0, 1, -1, 2] : List Int).getD i 0) rfl (sx_lt3 rfl rfl rfl) (sx_le3 (by decide) (by decide) (by decide) (by decide)) (sx_lt3 rfl rfl rfl))
    sx_small2 (by decide)
  exact h.mono fun e w' h' => got8_ok e w' h'

set_option maxRecDepth 100000 in
set_option maxHeartbeats 1000000 in
theorem awake_any14 (w : World) : Calls Tryz.prog 6 #[] w fun e w' => e = .returned (.bool true) ∧ Below w.heap.size w w' := by
  have hR0 := new_reads w [1, 2, 3] #[.float .f64 4607182418800017408, .float .f64 4611686018427387904, .float .f64 4613937818241073152] 47 (by rw [fi_1, fi_2, fi_3]; rfl)
  have HK := Lib.hid (kept_small14 _ 3 (fun j => ([1, 2, 3] : List Int).getD j 0) _ (by decide) (by decide) hR0 sx_l3_small)
  have HB0 := Lib.hid (bel1 w (.cells #[.float .f64 4607182418800017408, .float .f64 4611686018427387904, .float .f64 4613937818241073152] 47))
  clear hR0
  go_enter Tryz.func6, Tryz.ntmps6
  go_wp2_with fail
  refine HK.out.mono ?_
  rintro e w1 ⟨a, c, rfl, hr, hb⟩
  have HB1 := Lib.hid (bel_both HB0.out hb)
  have HR1 := Lib.hid hr
  clear hb hr
  have HX1 := Lib.hid (boxed_new w1 32 2 vnil 0 (.slice a 3 c) vnil vnil vnil vnil)
  have HB1' := Lib.hid (bel_both HB1.out (bel1 w1 (.cells #[.int .i64 2, vnil, .int .i64 0, .slice a 3 c, vnil, vnil, vnil, vnil] 32)))
  have HR1' := Lib.hid (HR1.out.below (bel1 w1 (.cells #[.int .i64 2, vnil, .int .i64 0, .slice a 3 c, vnil, vnil, vnil, vnil] 32)))
  have HF1 := Lib.hid (scan_ex1 a c _ HR1'.out)
  go_wp2_with fail
  refine HF1.out.mono ?_
  rintro e w2 ⟨a2, c2, rfl, hr2, hb2⟩
  have HB2 := Lib.hid (bel_both HB1'.out hb2)
  have HX2 := Lib.hid (HX1.out.below hb2)
  have HS1 := Lib.hid (HR1'.out.below hb2)
  have HR2 := Lib.hid hr2
  clear hb2 hr2
  have HX2' := Lib.hid (HX2.out.below (bel1 w2 (.cells #[.int .i64 2, vnil, .int .i64 0, .slice a2 3 c2, vnil, vnil, vnil, vnil] 32)))
  have HB2' := Lib.hid (bel_both HB2.out (bel1 w2 (.cells #[.int .i64 2, vnil, .int .i64 0, .slice a2 3 c2, vnil, vnil, vnil, vnil] 32)))
  have HY2 := Lib.hid (boxed_new w2 32 2 vnil 0 (.slice a2 3 c2) vnil vnil vnil vnil)
  have HR2' := Lib.hid (HR2.out.below (bel1 w2 (.cells #[.int .i64 2, vnil, .int .i64 0, .slice a2 3 c2, vnil, vnil, vnil, vnil] 32)))
  have HS1' := Lib.hid (HS1.out.below (bel1 w2 (.cells #[.int .i64 2, vnil, .int .i64 0, .slice a2 3 c2, vnil, vnil, vnil, vnil] 32)))
  have HF2 := Lib.hid (scan_ex2 a c _ HS1'.out)
  obtain ⟨h0, h1, h2, h3, h4, h5, h6, h7⟩ := HX2'.out
  go_wp2_with fail
  refine HF2.out.mono ?_
  rintro e w3 ⟨a3, c3, rfl, hr3, hb3⟩
  have HB3 := Lib.hid (bel_both HB2'.out hb3)
  have HY3 := Lib.hid (HY2.out.below hb3)
  have HS3 := Lib.hid (HR2'.out.below hb3)
  have HR3 := Lib.hid hr3
  clear hb3 hr3 h0 h1 h2 h3 h4 h5 h6 h7
  have HB4 := Lib.hid (bel_both HB3.out (bel1 w3 (.cells #[.int .i64 2, vnil, .int .i64 0, .slice a3 3 c3, vnil, vnil, vnil, vnil] 32)))
  have HY4 := Lib.hid (HY3.out.below (bel1 w3 (.cells #[.int .i64 2, vnil, .int .i64 0, .slice a3 3 c3, vnil, vnil, vnil, vnil] 32)))
  have HZ4 := Lib.hid (boxed_new w3 32 2 vnil 0 (.slice a3 3 c3) vnil vnil vnil vnil)
  have HS4 := Lib.hid (HS3.out.below (bel1 w3 (.cells #[.int .i64 2, vnil, .int .i64 0, .slice a3 3 c3, vnil, vnil, vnil, vnil] 32)))
  have HR4 := Lib.hid (HR3.out.below (bel1 w3 (.cells #[.int .i64 2, vnil, .int .i64 0, .slice a3 3 c3, vnil, vnil, vnil, vnil] 32)))
  have HN4 := Lib.hid (nums_small a2 c2 3 _ _ (by decide) HS4.out sx_small1)
  obtain ⟨h0, h1, h2, h3, h4, h5, h6, h7⟩ := HY4.out
  go_wp2_with fail
  refine HN4.out.mono ?_
  rintro e w5 ⟨v5, rfl, hr5, hb5⟩
  have HB5 := Lib.hid (bel_both HB4.out hb5)
  have HZ5 := Lib.hid (HZ4.out.below hb5)
  have HS5 := Lib.hid (HR4.out.below hb5)
  have HB5' := Lib.hid (bel_both HB5.out (bel1 w5 (.cells #[.float .f64 4607182418800017408, .float .f64 4613937818241073152, .float .f64 4618441417868443648] 47)))
  have HZ5' := Lib.hid (HZ5.out.below (bel1 w5 (.cells #[.float .f64 4607182418800017408, .float .f64 4613937818241073152, .float .f64 4618441417868443648] 47)))
  have HS5' := Lib.hid (HS5.out.below (bel1 w5 (.cells #[.float .f64 4607182418800017408, .float .f64 4613937818241073152, .float .f64 4618441417868443648] 47)))
  have HM5 := Lib.hid (same_fi _ _ 3 (fun j => ([1, 3, 6] : List Int).getD j 0) _ (hr5.below (bel1 w5 (.cells #[.float .f64 4607182418800017408, .float .f64 4613937818241073152, .float .f64 4618441417868443648] 47))) (new_reads w5 [1, 3, 6] #[.float .f64 4607182418800017408, .float .f64 4613937818241073152, .float .f64 4618441417868443648] 47 (by rw [fi_1, fi_3, sx_fi_6]; rfl)) (by decide) sx_good1)
  clear hb5 hr5 h0 h1 h2 h3 h4 h5 h6 h7
  go_wp2_with fail
  refine HM5.out.mono ?_
  rintro e w6 ⟨rfl, hb6⟩
  have HB6 := Lib.hid (bel_both HB5'.out hb6)
  have HZ6 := Lib.hid (HZ5'.out.below hb6)
  have HS6 := Lib.hid (HS5'.out.below hb6)
  clear hb6
  have HN6 := Lib.hid (nums_small a3 c3 3 _ _ (by decide) HS6.out sx_small2)
  obtain ⟨h0, h1, h2, h3, h4, h5, h6, h7⟩ := HZ6.out
  go_wp2_with fail
  refine HN6.out.mono ?_
  rintro e w7 ⟨v7, rfl, hr7, hb7⟩
  have HB7 := Lib.hid (bel_both HB6.out hb7)
  have HB7' := Lib.hid (bel_both HB7.out (bel1 w7 (.cells #[.float .f64 4607182418800017408, .float .f64 13830554455654793216, .float .f64 4611686018427387904] 47)))
  have HM7 := Lib.hid (same_fi _ _ 3 (fun j => ([1, -1, 2] : List Int).getD j 0) _ (hr7.below (bel1 w7 (.cells #[.float .f64 4607182418800017408, .float .f64 13830554455654793216, .float .f64 4611686018427387904] 47))) (new_reads w7 [1, -1, 2] #[.float .f64 4607182418800017408, .float .f64 13830554455654793216, .float .f64 4611686018427387904] 47 (by rw [fi_1, fi_n1, fi_2]; rfl)) (by decide) sx_good2)
  clear hb7 hr7 h0 h1 h2 h3 h4 h5 h6 h7
  go_wp2_with fail
  refine HM7.out.mono ?_
  rintro e w8 ⟨rfl, hb8⟩
  have HB8 := Lib.hid (bel_both HB7'.out hb8)
  clear hb8
  go_wp2
  go_ret
  exact ⟨rfl, HB8.out⟩
end Go.Proofs.YtdddmehchfnppaaGreatDoor
