/- Merged texts. The walk of scan.wholes, whatever comes of it. Conditions: as each theorem says. The walk of scan.counts. Conditions: as each theorem says. The walk of bitvec.Unpack. Conditions: as each theorem says. The walk of scan.Scan at numbers where n is 1 or 0. Conditions: as each theorem says. -/
import Derived.Test.YtdddmehchfnppaaGreatDoorMg40
import Derived.Test.YtdddmehchfnppaaGreatDoorMg16
import Derived.Test.YtdddmehchfnppaaGreatDoorMg39
import Derived.Test.YtdddmehchfnppaaGreatDoorMg18
import Derived.Test.YtdddmehchfnppaaGreatDoorMg19
namespace Go.Proofs.YtdddmehchfnppaaGreatDoor
open Go Go.RowKit Go.Proofs Fl

theorem idx_dec {n inner o k i : Nat} (hk : k < inner) (hi : i < n) : (o * n * inner + k + i * inner) / (n * inner) = o ∧ (o * n * inner + k + i * inner) % (n * inner) % inner = k ∧ (o * n * inner + k + i * inner) % (n * inner) / inner = i := by
  have hlt : k + i * inner < n * inner := by
    have h1 : (i + 1) * inner ≤ n * inner := Nat.mul_le_mul_right _ hi
    rw [Nat.add_mul] at h1
    omega
  have e : o * n * inner + k + i * inner = n * inner * o + (k + i * inner) := by
    have : o * n * inner = n * inner * o := by rw [Nat.mul_assoc, Nat.mul_comm]
    omega
  have e2 : (o * n * inner + k + i * inner) % (n * inner) = k + i * inner := by
    rw [e, Nat.mul_add_mod, Nat.mod_eq_of_lt hlt]
  refine ⟨?_, ?_, ?_⟩
  · rw [e, Nat.mul_add_div (by omega), Nat.div_eq_of_lt hlt]; omega
  · rw [e2, Nat.add_mul_mod_self_right, Nat.mod_eq_of_lt hk]
  · rw [e2, Nat.add_mul_div_right _ _ (by omega), Nat.div_eq_of_lt hk]; omega
/-- what the lines hold at the end -/
def zF (q : Int) (L : Nat → Int) (n inner j : Nat) : Int := yF q (fun i => L (j / (n * inner) * n * inner + j % (n * inner) % inner + i * inner)) (j % (n * inner) / inner + 1)
theorem zF_at {q : Int} {L : Nat → Int} {n inner o k i : Nat} (hk : k < inner) (hi : i < n) : zF q L n inner (o * n * inner + k + i * inner) = yF q (fun i => L (o * n * inner + k + i * inner)) (i + 1) := by
  obtain ⟨h1, h2, h3⟩ := idx_dec (o := o) hk hi
  unfold zF
  rw [h1, h2, h3]
/-- the lines ahead of (o, k) come to what they are to come to -/
def OkL (r : Nat → Option Nat) (Z : Nat → Int) (n inner o k : Nat) : Prop := ∀ o' k' i, (o' < o ∨ (o' = o ∧ k' < k)) → k' < inner → i < n → r (o' * n * inner + k' + i * inner) = some (fi (Z (o' * n * inner + k' + i * inner))) ∧ Good (Z (o' * n * inner + k' + i * inner))
theorem OkL.zero (r : Nat → Option Nat) (Z : Nat → Int) (n inner : Nat) : OkL r Z n inner 0 0 := fun o' k' i h => by omega
theorem OkL.next {r : Nat → Option Nat} {Z : Nat → Int} {n inner o : Nat} (h : OkL r Z n inner o inner) : OkL r Z n inner (o + 1) 0 := fun o' k' i h1 h2 h3 => h o' k' i (by omega) h2 h3
theorem OkL.line {r : Nat → Option Nat} {Z : Nat → Int} {n inner o k : Nat} (h : OkL r Z n inner o k) (hl : ∀ i, i < n → r (o * n * inner + k + i * inner) = some (fi (Z (o * n * inner + k + i * inner))) ∧ Good (Z (o * n * inner + k + i * inner))) : OkL r Z n inner o (k + 1) := by
  intro o' k' i h1 h2 h3
  by_cases e : o' = o ∧ k' = k
  · obtain ⟨rfl, rfl⟩ := e
    exact hl i h3
  · exact h o' k' i (by omega) h2 h3
theorem OkL.all {r : Nat → Option Nat} {Z : Nat → Int} {outer n inner : Nat} (h : OkL r Z n inner outer 0) : ∀ j, j < outer * n * inner → r j = some (fi (Z j)) ∧ Good (Z j) := by
  intro j hj
  obtain ⟨o, k, i, h1, h2, h3, rfl⟩ := idx_surj hj
  exact h o k i (.inl h1) h2 h3

/-- what wholes tells -/
def SwOut (H : Nat → Prop) (w : World) (r : Nat → Option Nat) (T : Nat) (e : Ending) (w' : World) : Prop :=
  ((∀ c, c < T → ∃ y, r c = some y) ∧ Vec2R H w (fun u W => NumV u (leastF (getR r) T : Nat) T (getR r) W) e w') ∨ NoVec w e w'

/-- a line, whatever function it is -/
theorem line_any (pw : Nat → Nat → Nat × Int) (q : Int) (b o0 c T g B n inner outer o k : Nat) (L F : Nat → Int) (X : Nat → Nat) (w : World) (hT : T = outer * n * inner) (hbT : T ≤ 1000000) (hn : n ≤ 1000) (hn1 : 1 ≤ n) (ho : o < outer) (hk : k < inner)
    (hrow : Row64 w B g T F) (hbg : b ≠ g) (hc : ∀ i, i < T → w.cell? ⟨b, o0 + i, none⟩ = some (.int .i64 (L i)))
    (hLg : ∀ i, i < T → Good (L i)) (hX : ∀ j, j < T → X j = fi (L j)) :
    Calls Tryz.prog 72 #[.int .i64 q, .slice (some ⟨b, o0, none⟩) T c, .slice (some ⟨g, 0, none⟩) T T, .int .i64 ((o * n * inner + k : Nat) : Int), .int .i64 (n : Int), .int .i64 (inner : Int)] w fun e w' =>
      (LineR w B g T (o * n * inner + k) n inner (zF q L n inner) F e w' ∧ ∀ i, i < n → scanR (oneP pw q) X n inner (o * n * inner + k + i * inner) = some (fi (zF q L n inner (o * n * inner + k + i * inner))) ∧ Good (zF q L n inner (o * n * inner + k + i * inner))) ∨
      (e = .returned (.bool false) ∧ Only g w w') := by
  have hix : ∀ i, i < n → o * n * inner + k + i * inner < T := fun i hi => by rw [hT]; exact idx_lt ho hk hi
  have hfin : ∀ e w', LineO w B g T (o * n * inner + k) n inner q (fun i => L (o * n * inner + k + i * inner)) (zF q L n inner) F e w' →
      (LineR w B g T (o * n * inner + k) n inner (zF q L n inner) F e w' ∧ ∀ i, i < n → scanR (oneP pw q) X n inner (o * n * inner + k + i * inner) = some (fi (zF q L n inner (o * n * inner + k + i * inner))) ∧ Good (zF q L n inner (o * n * inner + k + i * inner))) ∨ (e = .returned (.bool false) ∧ Only g w w') := by
    rintro e w' (⟨h1, h2, h3⟩ | h)
    · refine .inl ⟨h1, fun i hi => ?_⟩
      rw [scanR_at hk hi, zF_at hk hi]
      exact line_plain pw q h2 (fun i => L (o * n * inner + k + i * inner)) (lineF X n inner o k) n (fun j hj => ⟨hX _ (hix j hj), hLg _ (hix j hj)⟩) h3 i hi
    · exact .inr h
  have hZ : ∀ i, i < n → zF q L n inner (o * n * inner + k + i * inner) = yF q (fun i => L (o * n * inner + k + i * inner)) (i + 1) := fun i hi => zF_at hk hi
  by_cases h1 : q = 1
  · subst h1; exact (line_all1 b o0 c T g B _ n inner L _ F _ w hbT hn hrow hbg hc hix hLg (fun _ _ => rfl) hZ).mono hfin
  by_cases h2 : q = 2
  · subst h2; exact (line_all2 b o0 c T g B _ n inner L _ F _ w hbT hn hrow hbg hc hix hLg (fun _ _ => rfl) hZ).mono hfin
  by_cases h5 : q = 5
  · subst h5; exact (line_all5 b o0 c T g B _ n inner L _ F _ w hbT hn hrow hbg hc hix hLg (fun _ _ => rfl) hZ).mono hfin
  by_cases h6 : q = 6
  · subst h6; exact (line_all6 b o0 c T g B _ n inner L _ F _ w hbT hn hrow hbg hc hix hLg (fun _ _ => rfl) hZ).mono hfin
  have h0 : o * n * inner + k < T := by have := hix 0 hn1; omega
  exact (line_other q h1 h2 h5 h6 b o0 c T g _ n inner _ _ w hbT hn1 (hc _ h0) h0).mono fun e w' h => .inr h

set_option maxRecDepth 100000 in
set_option maxHeartbeats 4000000 in
theorem swholes_any (pw : Nat → Nat → Nat × Int) (H : Nat → Prop) (q : Int) (b o0 c T : Nat) (outer n inner : Nat) (L : Nat → Int) (X : Nat → Nat) (w : World) (hH : ∀ b, H b → b < w.heap.size)
    (hT : T = outer * n * inner) (hn1 : 1 ≤ n) (hb1 : outer ≤ 1000) (hb2 : n ≤ 1000) (hb3 : inner ≤ 1000) (hbT : T ≤ 1000000)
    (hc : ∀ i, i < T → w.cell? ⟨b, o0 + i, none⟩ = some (.int .i64 (L i)))
    (hX : ∀ j, j < T → X j = fi (L j)) (hLg : ∀ j, j < T → Good (L j)) :
    Calls Tryz.prog 35 #[.int .i64 q, .slice (some ⟨b, o0, none⟩) T c, .int .i64 (outer : Int), .int .i64 (n : Int), .int .i64 (inner : Int)] w (SwOut H w (scanR (oneP pw q) X n inner) T) := by
  have HT := Lib.hid hT
  have HH := Lib.hid hH
  have HL := Lib.hid (fun (o k : Nat) (W : World) (F : Nat → Int) (ho : o < outer) (hk : k < inner) (hb : Below w.heap.size w W) (hrow : Row64 W (w.heap.size + 1) (w.heap.size + 1) T F) =>
    line_any pw q b o0 c T (w.heap.size + 1) (w.heap.size + 1) n inner outer o k L F X W hT hbT hb2 hn1 ho hk hrow
      (by
        have h0 : 0 < T := by rw [hT]; exact Nat.lt_of_le_of_lt (Nat.zero_le _) (idx_lt ho hk (show 0 < n by omega))
        have := cell_lt (hc 0 h0)
        have h2 : b < w.heap.size := this
        omega)
      (fun i hi => by rw [hb.cell (cell_lt (hc i hi))]; exact hc i hi) hLg hX)
  have hmk := run_make_row' (P := Tryz.prog) 28 2 (.int .i64 0) 8 Tryz.underlying28 info_i64 rfl .i64 .i64 T (by omega) (by omega)
  have HR0 := Lib.hid (Row64.made (w.alloc (.cells zcells 32)) (w.heap.size + 1) (by simp) T (by unfold maxLen; omega))
  have hsz : (w.alloc (.cells zcells 32)).heap.size = w.heap.size + 1 := by simp
  rw [hsz] at HR0
  have HBM := Lib.hid (bel2 w (.cells zcells 32) (.cells (madeCells #[.int .i64 0] T) 2))
  have HKM := Lib.hid (block_up (bel1 (w.alloc (.cells zcells 32)) (.cells (madeCells #[.int .i64 0] T) 2)))
  obtain ⟨r, hr⟩ : ∃ r, r = scanR (oneP pw q) X n inner := ⟨_, rfl⟩
  obtain ⟨Z, hZ⟩ : ∃ Z, Z = zF q L n inner := ⟨_, rfl⟩
  rw [← hr, ← hZ] at HL
  rw [← hr]
  clear hT hH hc hX hLg hsz hr hZ
  go_enter Tryz.func35, Tryz.ntmps35
  go_wp2_with fail
  go_loopw [22] (fun oo wr => ∃ o : Nat, o ≤ outer ∧ oo = .int .i64 o ∧ (∃ F, Row64 wr (w.heap.size + 1) (w.heap.size + 1) T F ∧ Done n inner o 0 Z F) ∧ Below w.heap.size w wr ∧ wr.heap[w.heap.size]? = some (.cells zcells 32) ∧ OkL r Z n inner o 0) (fun oo _ => outer - (intOf oo).toNat)
  case atStart => exact ⟨0, Nat.zero_le _, rfl, ⟨_, HR0.out, Done.zero _ _ _ _⟩, HBM.out, HKM.out, OkL.zero _ _ _ _⟩
  case round =>
    clear hmk HR0 HBM HKM
    obtain ⟨o, ho, rfl, ⟨F, hrow, hdone⟩, hbl, hk, hok⟩ := hrel
    have HROW := Lib.hid hrow
    have HD := Lib.hid hdone
    have HBL := Lib.hid hbl
    have HK := Lib.hid hk
    have HOK := Lib.hid hok
    clear hrow hdone hbl hk hok
    by_cases hlt : o < outer
    · go_wp2_with fail
      go_loopw [26] (fun kk wr => ∃ k : Nat, k ≤ inner ∧ kk = .int .i64 k ∧ (∃ F, Row64 wr (w.heap.size + 1) (w.heap.size + 1) T F ∧ Done n inner o k Z F) ∧ Below w.heap.size w wr ∧ wr.heap[w.heap.size]? = some (.cells zcells 32) ∧ OkL r Z n inner o k) (fun kk _ => inner - (intOf kk).toNat)
      case atStart => exact ⟨0, Nat.zero_le _, rfl, ⟨_, HROW.out, HD.out⟩, HBL.out, HK.out, HOK.out⟩
      case round =>
        clear HROW HD HBL HK HOK
        obtain ⟨k, hk, rfl, ⟨F, hrow, hdone⟩, hbl, hkk, hok⟩ := hrel
        have HROW := Lib.hid hrow
        have HD := Lib.hid hdone
        have HBL := Lib.hid hbl
        have HK := Lib.hid hkk
        have HOK := Lib.hid hok
        clear hrow hdone hbl hkk hok
        by_cases hltk : k < inner
        · have HLN := Lib.hid (HL.out o k wr F hlt hltk HBL.out HROW.out)
          obtain ⟨P1, eP1⟩ : ∃ P1, P1 = o * n := ⟨_, rfl⟩
          obtain ⟨P2, eP2⟩ : ∃ P2, P2 = P1 * inner := ⟨_, rfl⟩
          obtain ⟨A, eA⟩ : ∃ A, A = P2 + k := ⟨_, rfl⟩
          have f1 : (o : Int) * (n : Int) = (P1 : Int) := by rw [eP1]; push_cast; rfl
          have f2 : (P1 : Int) * (inner : Int) = (P2 : Int) := by rw [eP2]; push_cast; rfl
          have f3 : (P2 : Int) + (k : Int) = (A : Int) := by rw [eA]; push_cast; rfl
          have hP1 : P1 ≤ 1000000 := by
            rw [eP1]; exact Nat.le_trans (Nat.mul_le_mul (Nat.le_of_lt (Nat.lt_of_lt_of_le hlt hb1)) hb2) (by decide)
          have hP2 : P2 ≤ 1000000000 := by
            rw [eP2]; exact Nat.le_trans (Nat.mul_le_mul hP1 hb3) (by decide)
          have eA' : A = o * n * inner + k := by rw [eA, eP2, eP1]
          rw [← eA'] at HLN
          have HEA := Lib.hid eA'
          clear eP1 eP2 eA eA'
          go_wp2_with fail
          refine HLN.out.mono ?_
          rintro e w2 (⟨⟨rfl, hon, F', hrow', hl', hor'⟩, hok'⟩ | ⟨rfl, hon⟩)
          · rw [HEA.out] at hl' hok'
            have HROW2 := Lib.hid hrow'
            have HD2 := Lib.hid (HD.out.line hl' hor')
            have HOK2 := Lib.hid (HOK.out.line hok')
            have HB2 := Lib.hid (hon.below HBL.out (Nat.le_succ _) HROW.out.low.2)
            have HK2 := Lib.hid (show w2.heap[w.heap.size]? = some (.cells zcells 32) by rw [hon.block _ (boxed_of HK.out).1.lt (by omega)]; exact HK.out)
            clear hon hrow' hl' hor' hok'
            go_wp2
            go_roundw
            case rel => exact ⟨k + 1, by omega, by go_num, ⟨F', HROW2.out, HD2.out⟩, HB2.out, HK2.out, HOK2.out⟩
            case measure => simp [intOf]; omega
          · have HB2 := Lib.hid (hon.below HBL.out (Nat.le_succ _) HROW.out.low.2)
            have HK2 := Lib.hid (show w2.heap[w.heap.size]? = some (.cells zcells 32) by rw [hon.block _ (boxed_of HK.out).1.lt (by omega)]; exact HK.out)
            clear hon
            obtain ⟨⟨h0, h1, h2, h3, h4, h5, h6, h7⟩, hz⟩ := boxed_of HK2.out
            go_wp2
            refine bodyPost_ret (v := .tuple #[vecV 0 vnil 0 vnil vnil vnil vnil vnil, .bool false]) ?_ rfl (.inr ⟨rfl, below_set8 HB2.out (Nat.le_refl _) _ _ _ _ _ _ _ _⟩)
            exact ret_vec2 (fn := Tryz.f35) (p := 10) (u := 11) rfl _ _ w.heap.size (by rfl) (set8_block HK2.out _ _ _ _ _ _ _ _)
        · obtain rfl : k = inner := by omega
          go_wp2
          go_roundw
          case rel => exact ⟨o + 1, by omega, by go_num, ⟨F, HROW.out, HD.out.next⟩, HBL.out, HK.out, HOK.out.next⟩
          case measure => simp [intOf]; omega
    · obtain rfl : o = outer := by omega
      have HALL : Hid (∀ j, j < T → r j = some (fi (Z j)) ∧ Good (Z j)) := by rw [HT.out]; exact HOK.out.all
      have HOWN : Hid (Own1 wr (w.heap.size + 1) 2 (.slice (some ⟨w.heap.size + 1, 0, none⟩) T T) ((List.range T).map fun j => .int .i64 (Z j))) := by
        have h := HROW.out
        unfold Row64 at h
        have e := HD.out.all
        rw [← HT.out] at e
        rw [e] at h
        exact h
      have HI := Lib.hid (ints_any (l := (List.range T).map Z) (by rw [List.map_map]; exact HOWN.out.reads) (by simpa using hbT) (fun x hx => by
        obtain ⟨j, hj, rfl⟩ := List.mem_map.1 hx
        exact (HALL.out j (List.mem_range.1 hj)).2))
      have HGO : Hid (∀ j, j < T → Good (Z j)) := fun j hj => (HALL.out j hj).2
      have HFO : Hid (∀ j, j < T → getR r j = fi (Z j)) := fun j hj => by unfold getR; rw [(HALL.out j hj).1]; rfl
      clear HL HROW HD HOK
      go_wp2_with fail
      refine HI.out.mono ?_
      rintro e w2 ⟨u, rfl, hou, hb2⟩
      rw [List.map_map] at hou
      have HB2 := Lib.hid (bel_both HBL.out hb2)
      have HK2 := Lib.hid (show w2.heap[w.heap.size]? = some (.cells zcells 32) by rw [hb2.block _ (boxed_of HK.out).1.lt]; exact HK.out)
      have HU := Lib.hid (hou.lower (show w.heap.size + 1 ≤ wr.heap.size from (boxed_of HK.out).1.lt))
      obtain ⟨ua, un, uc, hu⟩ : ∃ a n c, u = .slice a n c := by obtain ⟨a, c, e⟩ := hou.reads.len; exact ⟨a, _, c, e⟩
      subst hu
      clear hb2 hou
      have HB3 := Lib.hid (HB2.out.alloc HB2.out.size (.cells #[.int .i64 3, vnil, .int .i64 0, vnil, .slice ua un uc, vnil, vnil, vnil] 32))
      have HK3 := Lib.hid (show (w2.alloc (.cells #[.int .i64 3, vnil, .int .i64 0, vnil, .slice ua un uc, vnil, vnil, vnil] 32)).heap[w.heap.size]? = some (.cells zcells 32) by rw [Below.heap_alloc _ _ _ (boxed_of HK2.out).1.lt]; exact HK2.out)
      have HKV : Hid (Keeps (fun j => H j ∨ j = w.heap.size) (w2.alloc (.cells #[.int .i64 3, vnil, .int .i64 0, vnil, .slice ua un uc, vnil, vnil, vnil] 32)) (NumV (vecW 3 (none, 0, 0) 0 (none, 0, 0) (ua, un, uc) (none, 0, 0) (none, 0, 0) (none, 0, 0)) 3 T (getR r))) :=
        ((HU.out.keepsH (fun j e => by rcases e with e | e; have := HH.out j e; omega; omega)).imp fun W' h2 => (numV_ints ⟨⟨_, rfl, h2⟩, HGO.out⟩).congr HFO.out).step (bel1 w2 _)
      have HS3 := Lib.hid (squeeze_num (fun j => H j ∨ j = w.heap.size) 3 (none, 0, 0) 0 (none, 0, 0) (ua, un, uc) (none, 0, 0) (none, 0, 0) (none, 0, 0) T (getR r) _ (fun j e => by
        have h1 := HB3.out.size
        have h2 := lt_of_block HK3.out
        rcases e with e | e
        · have := HH.out j e; omega
        · omega) hbT HKV.out)
      go_wp2_with fail
      refine HS3.out.mono ?_
      rintro e w4 ⟨k4, b4, bn4, s4, i4, f4, c4, x4, rfl, hk4, hb4⟩
      have HB4 := Lib.hid (bel_both HB3.out hb4)
      have HK4 := Lib.hid (show w4.heap[w.heap.size]? = some (.cells zcells 32) by rw [hb4.block _ (boxed_of HK3.out).1.lt]; exact HK3.out)
      have HKE := Lib.hid hk4
      clear hb4 hk4
      obtain ⟨⟨h0, h1, h2, h3, h4, h5, h6, h7⟩, hz⟩ := boxed_of HK4.out
      go_wp2
      refine bodyPost_ret (v := .tuple #[vecW k4 b4 bn4 s4 i4 f4 c4 x4, .bool true]) ?_ rfl (.inl ⟨fun cc hcc => ⟨_, (HALL.out cc hcc).1⟩, k4, b4, bn4, s4, i4, f4, c4, x4, rfl, (HKE.out.set8 (.inr rfl) _ _ _ _ _ _ _ _).sub (fun _ _ e => .inl e), below_set8 HB4.out (Nat.le_refl _) _ _ _ _ _ _ _ _⟩)
      exact ret_vec2 (fn := Tryz.f35) (p := 10) (u := 11) rfl _ _ w.heap.size (by rfl) (set8_block HK4.out _ _ _ _ _ _ _ _)
end Go.Proofs.YtdddmehchfnppaaGreatDoor
namespace Go.Proofs.YtdddmehchfnppaaGreatDoor
open Go Go.RowKit Go.Proofs Fl

/-- how many are true up to place j of its row -/
def cZ (l : Nat → Bool) (n j : Nat) : Int := ((cnt (rowl l n (j / n)) (j % n + 1) : Nat) : Int)
theorem cZ_at (l : Nat → Bool) (n o i : Nat) (hi : i < n) : cZ l n (o * n + i) = ((cnt (rowl l n o) (i + 1) : Nat) : Int) := by
  unfold cZ
  rw [show (o * n + i) / n = o by rw [Nat.mul_comm, Nat.mul_add_div (by omega), Nat.div_eq_of_lt hi]; omega, show (o * n + i) % n = i by rw [Nat.mul_comm, Nat.mul_add_mod, Nat.mod_eq_of_lt hi]]
theorem cZ_scan (pw : Nat → Nat → Nat × Int) (l : Nat → Bool) (X : Nat → Nat) (outer n : Nat) (hn : n ≤ 1000000) (hX : ∀ j, j < outer * n → X j = fi (bI (l j))) : ∀ j, j < outer * n → scanR (oneP pw 1) X n 1 j = some (fi (cZ l n j)) ∧ Good (cZ l n j) := by
  intro j hj
  have hn0 : 0 < n := by
    rcases Nat.eq_zero_or_pos n with e | e
    · rw [e, Nat.mul_zero] at hj; omega
    · exact e
  have hd : n * (j / n) + j % n = j := Nat.div_add_mod j n
  have hm : j % n < n := Nat.mod_lt _ hn0
  have ho : j / n < outer := Nat.div_lt_of_lt_mul (by rw [Nat.mul_comm]; exact hj)
  have ej : j / n * n + j % n = j := by rw [Nat.mul_comm]; exact hd
  have e1 : scanR (oneP pw 1) X n 1 j = rowR (oneP pw 1) (lineF X n 1 (j / n) 0) (j % n + 1) := by
    have h := scanR_at (g := oneP pw 1) (F := X) (n := n) (inner := 1) (o := j / n) (k := 0) (i := j % n) (by decide) hm
    rw [Nat.mul_one, Nat.add_zero, Nat.mul_one, ej] at h
    exact h
  have hrow := row_bits pw 1 (rowl l n (j / n)) (j % n + 1) (cnt (rowl l n (j / n)) (j % n + 1) : Nat) rfl (lineF X n 1 (j / n) 0) (fun i hi => by
    unfold lineF rowl
    rw [Nat.mul_one, Nat.add_zero, Nat.mul_one]
    refine hX _ ?_
    have h2 : (j / n + 1) * n ≤ outer * n := Nat.mul_le_mul_right _ ho
    rw [Nat.add_mul] at h2
    omega) (by omega) (by omega)
  rw [e1]
  exact hrow

set_option maxRecDepth 100000 in
set_option maxHeartbeats 1000000 in
theorem scounts_any (pw : Nat → Nat → Nat × Int) (H : Nat → Prop) (v : Value) (outer n T : Nat) (l : Nat → Bool) (X : Nat → Nat) (w : World) (hH : ∀ b, H b → b < w.heap.size)
    (hT : T = outer * n) (hb1 : outer ≤ 1000) (hb2 : n ≤ 1000) (hbT : T ≤ 1000000) (hb : BitsIn w v T l) (hX : ∀ j, j < T → X j = fi (bI (l j))) :
    Calls Tryz.prog 65 #[v, .int .i64 (outer : Int), .int .i64 (n : Int)] w fun e w' => ∃ (k : Int) (b : Sl) (bn : Int) (s i f c x : Sl), e = .returned (vecW k b bn s i f c x) ∧ Keeps H w' (NumV (vecW k b bn s i f c x) (leastF (getR (scanR (oneP pw 1) X n 1)) T : Nat) T (getR (scanR (oneP pw 1) X n 1))) ∧ Below w.heap.size w w' := by
  have HBI := Lib.hid hb
  have HT := Lib.hid hT
  have HH := Lib.hid hH
  have HALL : Hid (∀ j, j < T → scanR (oneP pw 1) X n 1 j = some (fi (cZ l n j)) ∧ Good (cZ l n j)) := by
    rw [hT]; exact cZ_scan pw l X outer n (by omega) (by rw [← hT]; exact hX)
  obtain ⟨r, hr⟩ : ∃ r, r = scanR (oneP pw 1) X n 1 := ⟨_, rfl⟩
  rw [← hr] at HALL ⊢
  have HLN := Lib.hid (fun W (hw : Below w.heap.size w W) => blen_in v T l W (hb.below hw))
  obtain ⟨b, o0, c, rfl, _⟩ := hb
  have HAT := Lib.hid (fun j W (hj : j < T) (hw : Below w.heap.size w W) => bitV_at (by omega) (HBI.out.below hw) j hj)
  have hmk := make_cap T hbT
  have HB0 := Lib.hid (bel2 w (.cells #[.slice (some ⟨b, o0, none⟩) ((T + 63) / 64) c, .int .i64 (T : Int)] 26) (.cells zcells 32))
  have HK0 := Lib.hid (block_up (bel1 (w.alloc (.cells #[.slice (some ⟨b, o0, none⟩) ((T + 63) / 64) c, .int .i64 (T : Int)] 26)) (.cells zcells 32)))
  have HK1 : Hid (((w.alloc (.cells #[.slice (some ⟨b, o0, none⟩) ((T + 63) / 64) c, .int .i64 (T : Int)] 26)).alloc (.cells zcells 32)).heap[w.heap.size + 1]? = some (.cells zcells 32)) := by
    have h := heap_alloc_new (w.alloc (.cells #[.slice (some ⟨b, o0, none⟩) ((T + 63) / 64) c, .int .i64 (T : Int)] 26)) (.cells zcells 32)
    have hs : (w.alloc (.cells #[.slice (some ⟨b, o0, none⟩) ((T + 63) / 64) c, .int .i64 (T : Int)] 26)).heap.size = w.heap.size + 1 := by simp
    rw [hs] at h
    exact h
  have HL2 := Lib.hid (HLN.out _ HB0.out)
  clear hT hH hX hr HLN
  go_enter Tryz.func65, Tryz.ntmps65
  obtain ⟨p0, p1, pf⟩ := pair_of HK0.out
  go_wp2_with fail
  refine HL2.out.mono ?_
  rintro e w2 ⟨rfl, hb2'⟩
  have HB2 := Lib.hid (bel_both HB0.out hb2')
  have HK02 := Lib.hid (show w2.heap[w.heap.size]? = some (.cells #[.slice (some ⟨b, o0, none⟩) ((T + 63) / 64) c, .int .i64 (T : Int)] 26) by rw [hb2'.block _ (lt_of_block HK0.out)]; exact HK0.out)
  have HK12 := Lib.hid (show w2.heap[w.heap.size + 1]? = some (.cells zcells 32) by rw [hb2'.block _ (lt_of_block HK1.out)]; exact HK1.out)
  have hs2 : w.heap.size + 1 < w2.heap.size := lt_of_block HK12.out
  clear hb2' p0 p1 pf HB0 HK0 HK1 HL2
  have HO1 : Hid (Own1 (w2.alloc (.cells (madeCells #[.int .i64 0] T) 2)) (w.heap.size + 2) 2 (.slice (some ⟨w2.heap.size, 0, none⟩) 0 T) ((List.range (0 * n)).map fun j => .int .i64 (cZ l n j))) := by
    have h := World.ownsRow_made (base := w.heap.size + 2) (e := 2) (size := 1) w2 (madeCells #[.int .i64 0] T) T (by omega) (by unfold maxLen; omega) (by rw [size_madeCells]; omega)
    rw [Nat.zero_mul]
    exact h
  have HB3 := Lib.hid (bel_both HB2.out (bel1 w2 (.cells (madeCells #[.int .i64 0] T) 2)))
  have HK03 := Lib.hid (show (w2.alloc (.cells (madeCells #[.int .i64 0] T) 2)).heap[w.heap.size]? = some (.cells #[.slice (some ⟨b, o0, none⟩) ((T + 63) / 64) c, .int .i64 (T : Int)] 26) by rw [Below.heap_alloc _ _ _ (by omega)]; exact HK02.out)
  have HK13 := Lib.hid (show (w2.alloc (.cells (madeCells #[.int .i64 0] T) 2)).heap[w.heap.size + 1]? = some (.cells zcells 32) by rw [Below.heap_alloc _ _ _ (by omega)]; exact HK12.out)
  go_wp2_with fail
  go_loopw [7, 17] (fun vv oo wr => ∃ o : Nat, o ≤ outer ∧ oo = .int .i64 o ∧ Own1 wr (w.heap.size + 2) 2 vv ((List.range (o * n)).map fun j => .int .i64 (cZ l n j)) ∧ Below w.heap.size w wr ∧ wr.heap[w.heap.size]? = some (.cells #[.slice (some ⟨b, o0, none⟩) ((T + 63) / 64) c, .int .i64 (T : Int)] 26) ∧ wr.heap[w.heap.size + 1]? = some (.cells zcells 32)) (fun _ oo _ => outer - (intOf oo).toNat)
  case atStart => exact ⟨0, Nat.zero_le _, rfl, HO1.out, HB3.out, HK03.out, HK13.out⟩
  case round =>
    clear hmk HO1 HB3 HK03 HK13 HB2 HK02 HK12 hs2
    obtain ⟨o, ho, rfl, hown, hbl, hk0, hk1⟩ := hrel
    have HOWN := Lib.hid hown
    have HBL := Lib.hid hbl
    have HK0 := Lib.hid hk0
    have HK1 := Lib.hid hk1
    clear hown hbl hk0 hk1
    by_cases hlt : o < outer
    · have HOWN' := Lib.hid (show Own1 wr (w.heap.size + 2) 2 _ ((List.range (o * n + 0)).map fun j => .int .i64 (cZ l n j)) from HOWN.out)
      go_wp2_with fail
      go_loopw [7, 9, 21] (fun vv cc ii wr => ∃ i : Nat, i ≤ n ∧ ii = .int .i64 i ∧ cc = .int .i64 ((cnt (rowl l n o) i : Nat) : Int) ∧ Own1 wr (w.heap.size + 2) 2 vv ((List.range (o * n + i)).map fun j => .int .i64 (cZ l n j)) ∧ Below w.heap.size w wr ∧ wr.heap[w.heap.size]? = some (.cells #[.slice (some ⟨b, o0, none⟩) ((T + 63) / 64) c, .int .i64 (T : Int)] 26) ∧ wr.heap[w.heap.size + 1]? = some (.cells zcells 32)) (fun _ _ ii _ => n - (intOf ii).toNat)
      case atStart => exact ⟨0, Nat.zero_le _, rfl, rfl, HOWN'.out, HBL.out, HK0.out, HK1.out⟩
      case round =>
        clear HOWN HOWN' HBL HK0 HK1
        obtain ⟨i, hi, rfl, rfl, hown, hbl, hk0, hk1⟩ := hrel
        have HOWN := Lib.hid hown
        have HBL := Lib.hid hbl
        have HK0 := Lib.hid hk0
        have HK1 := Lib.hid hk1
        clear hown hbl hk0 hk1
        by_cases hlti : i < n
        · obtain ⟨P, eP⟩ : ∃ P, P = o * n := ⟨_, rfl⟩
          obtain ⟨I, eI⟩ : ∃ I, I = P + i := ⟨_, rfl⟩
          have f1 : (o : Int) * (n : Int) = (P : Int) := by rw [eP]; push_cast; rfl
          have f2 : (P : Int) + (i : Int) = (I : Int) := by rw [eI]; push_cast; rfl
          have hI : I < T := by
            have h2 : (o + 1) * n ≤ outer * n := Nat.mul_le_mul_right _ hlt
            rw [Nat.add_mul] at h2
            rw [HT.out]; omega
          have hP : P ≤ 1000000 := by omega
          have eI' : I = o * n + i := by rw [eI, eP]
          have HATI := Lib.hid (HAT.out I wr hI HBL.out)
          have hli : rowl l n o i = l I := by unfold rowl; rw [eI']
          have hcs : cnt (rowl l n o) (i + 1) = cnt (rowl l n o) i + (if l I then 1 else 0) := by rw [← hli]; rfl
          have hcz := cZ_at l n o i hlti
          have hcb := cnt_le (rowl l n o) i
          rw [hcs] at hcz
          have HCS := Lib.hid hcs
          rw [← eI'] at hcz
          have HCZ := Lib.hid hcz
          have HEI := Lib.hid eI'
          obtain ⟨p0, p1, pf⟩ := pair_of HK0.out
          clear eP eI eI' hli hcz hcs
          generalize cnt (rowl l n o) i = z at *
          go_wp2_with fail
          refine HATI.out.mono ?_
          rintro e w5 ⟨rfl, hb5⟩
          have HBL5 := Lib.hid (bel_both HBL.out hb5)
          have HOWN5 := Lib.hid (HOWN.out.below hb5)
          have HK05 := Lib.hid (show w5.heap[w.heap.size]? = some (.cells #[.slice (some ⟨b, o0, none⟩) ((T + 63) / 64) c, .int .i64 (T : Int)] 26) by rw [hb5.block _ (lt_of_block HK0.out)]; exact HK0.out)
          have HK15 := Lib.hid (show w5.heap[w.heap.size + 1]? = some (.cells zcells 32) by rw [hb5.block _ (lt_of_block HK1.out)]; exact HK1.out)
          have hBw : w.heap.size + 2 ≤ w5.heap.size := lt_of_block HK15.out
          clear hb5 p0 p1 pf HBL HOWN HK0 HK1 HATI f1 f2
          obtain ⟨zz, ezz⟩ : ∃ zz : Nat, zz = z + (if l I then 1 else 0) := ⟨_, rfl⟩
          rw [← ezz] at HCS HCZ
          have HOS : Hid (((List.range (o * n + i)).map fun j => Value.int .i64 (cZ l n j)) ++ [.int .i64 (zz : Nat)] = (List.range (o * n + (i + 1))).map fun j => .int .i64 (cZ l n j)) := by
            show _ = _
            have e : o * n + (i + 1) = o * n + i + 1 := rfl
            rw [e, ← HEI.out, List.range_succ, List.map_append]
            simp [HCZ.out]
          have HFL : Hid ((((List.range (o * n + i)).map fun j => Value.int .i64 (cZ l n j)).length + 1) * 8 ≤ 140737488355328) := by
            rw [List.length_map, List.length_range, ← HEI.out]; show _ ≤ _; omega
          have HFL2 : Hid (((List.range (o * n + i)).map fun j => Value.int .i64 (cZ l n j)).length + 1 ≤ 140737488355328) := by
            rw [List.length_map, List.length_range, ← HEI.out]; show _ ≤ _; omega
          cases hl : l I with
          | false =>
            obtain rfl : zz = z := by rw [ezz, hl]; rfl
            clear hl ezz
            go_wp2_with (at_builtin; refine wpList_push1 rfl (.tmp 33) (.tmp 35) 28 2 rfl Tryz.underlying28 (.int .i64 0) 8 info_i64 rfl (w.heap.size + 2) _ ((List.range (o * n + i)).map fun j => Value.int .i64 (cZ l n j)) rfl HOWN5.out (.int .i64 (zz : Nat)) rfl rfl HFL.out HFL2.out hBw ?_; intro v' w1 hv' hb' _ hs'; rw [HOS.out] at hv'; have HV := Lib.hid hv'; have HB' := Lib.hid (hb' w5 (Below.refl _ _)); clear hb' hv' hs')
            go_roundw
            case rel => exact ⟨i + 1, by omega, by go_num, by rw [HCS.out], HV.out, bel_both' HBL5.out (HB'.out.mono (by omega)), by rw [HB'.out.block _ (by omega)]; exact HK05.out, by rw [HB'.out.block _ (by omega)]; exact HK15.out⟩
            case measure => simp [intOf]; omega
          | true =>
            obtain rfl : zz = z + 1 := by rw [ezz, hl]; rfl
            clear hl ezz
            go_wp2_with (at_builtin; refine wpList_push1 rfl (.tmp 33) (.tmp 35) 28 2 rfl Tryz.underlying28 (.int .i64 0) 8 info_i64 rfl (w.heap.size + 2) _ ((List.range (o * n + i)).map fun j => Value.int .i64 (cZ l n j)) rfl HOWN5.out (.int .i64 ((z : Int) + 1)) rfl rfl HFL.out HFL2.out hBw ?_; intro v' w1 hv' hb' _ hs'; rw [show (Value.int .i64 ((z : Int) + 1)) = .int .i64 ((z + 1 : Nat) : Int) from rfl] at hv'; rw [HOS.out] at hv'; have HV := Lib.hid hv'; have HB' := Lib.hid (hb' w5 (Below.refl _ _)); clear hb' hv' hs')
            go_roundw
            case rel => exact ⟨i + 1, by omega, by go_num, by rw [HCS.out]; rfl, HV.out, bel_both' HBL5.out (HB'.out.mono (by omega)), by rw [HB'.out.block _ (by omega)]; exact HK05.out, by rw [HB'.out.block _ (by omega)]; exact HK15.out⟩
            case measure => simp [intOf]; omega
        · obtain rfl : i = n := by omega
          have HOWN2 : Hid (Own1 wr (w.heap.size + 2) 2 u7 ((List.range ((o + 1) * i)).map fun j => .int .i64 (cZ l i j))) := by rw [Nat.add_mul, Nat.one_mul]; exact HOWN.out
          go_wp2
          go_roundw
          case rel => exact ⟨o + 1, by omega, by go_num, HOWN2.out, HBL.out, HK0.out, HK1.out⟩
          case measure => simp [intOf]; omega
    · obtain rfl : o = outer := by omega
      have HGO : Hid (∀ j, j < T → Good (cZ l n j)) := fun j hj => (HALL.out j hj).2
      have HFO : Hid (∀ j, j < T → getR r j = fi (cZ l n j)) := fun j hj => by unfold getR; rw [(HALL.out j hj).1]; rfl
      have HO : Hid (Own1 wr (w.heap.size + 2) 2 u7 ((List.range T).map fun j => .int .i64 (cZ l n j))) := by rw [HT.out]; exact HOWN.out
      have HI := Lib.hid (ints_any (l := (List.range T).map (cZ l n)) (by rw [List.map_map]; exact HO.out.reads) (by simpa using hbT) (fun x hx => by
        obtain ⟨j, hj, rfl⟩ := List.mem_map.1 hx
        exact HGO.out j (List.mem_range.1 hj)))
      clear HAT HALL
      go_wp2_with fail
      refine HI.out.mono ?_
      rintro e w5 ⟨u, rfl, hou, hb5⟩
      rw [List.map_map] at hou
      have hs1 : w.heap.size + 1 < wr.heap.size := lt_of_block HK1.out
      have HB2 := Lib.hid (bel_both HBL.out hb5)
      have HK2 := Lib.hid (show w5.heap[w.heap.size + 1]? = some (.cells zcells 32) by rw [hb5.block _ hs1]; exact HK1.out)
      have HU := Lib.hid (hou.lower (show w.heap.size + 2 ≤ wr.heap.size from hs1))
      obtain ⟨ua, un, uc, hu⟩ : ∃ a n c, u = .slice a n c := by obtain ⟨a, c, e⟩ := hou.reads.len; exact ⟨a, _, c, e⟩
      subst hu
      clear hb5 hou
      have HB3 := Lib.hid (HB2.out.alloc HB2.out.size (.cells #[.int .i64 3, vnil, .int .i64 0, vnil, .slice ua un uc, vnil, vnil, vnil] 32))
      have HK3 := Lib.hid (show (w5.alloc (.cells #[.int .i64 3, vnil, .int .i64 0, vnil, .slice ua un uc, vnil, vnil, vnil] 32)).heap[w.heap.size + 1]? = some (.cells zcells 32) by rw [Below.heap_alloc _ _ _ (boxed_of HK2.out).1.lt]; exact HK2.out)
      have HKV : Hid (Keeps (fun j => H j ∨ j = w.heap.size + 1) (w5.alloc (.cells #[.int .i64 3, vnil, .int .i64 0, vnil, .slice ua un uc, vnil, vnil, vnil] 32)) (NumV (vecW 3 (none, 0, 0) 0 (none, 0, 0) (ua, un, uc) (none, 0, 0) (none, 0, 0) (none, 0, 0)) 3 T (getR r))) :=
        ((HU.out.keepsH (fun j e => by rcases e with e | e; have := HH.out j e; omega; omega)).imp fun W' h2 => (numV_ints ⟨⟨_, rfl, h2⟩, HGO.out⟩).congr HFO.out).step (bel1 w5 _)
      have HS3 := Lib.hid (squeeze_num (fun j => H j ∨ j = w.heap.size + 1) 3 (none, 0, 0) 0 (none, 0, 0) (ua, un, uc) (none, 0, 0) (none, 0, 0) (none, 0, 0) T (getR r) _ (fun j e => by
        have h1 := HB3.out.size
        have h2 := lt_of_block HK3.out
        rcases e with e | e
        · have := HH.out j e; omega
        · omega) hbT HKV.out)
      go_wp2_with fail
      refine HS3.out.mono ?_
      rintro e w6 ⟨k4, b4, bn4, s4, i4, f4, c4, x4, rfl, hk4, hb4⟩
      have HB4 := Lib.hid (bel_both HB3.out hb4)
      have HK4 := Lib.hid (show w6.heap[w.heap.size + 1]? = some (.cells zcells 32) by rw [hb4.block _ (boxed_of HK3.out).1.lt]; exact HK3.out)
      have HKE := Lib.hid hk4
      clear hb4 hk4
      obtain ⟨⟨h0, h1, h2, h3, h4, h5, h6, h7⟩, hz⟩ := boxed_of HK4.out
      go_wp2
      exact bodyPost_ret (ret_vec rfl _ _ _ rfl (set8_block HK4.out _ _ _ _ _ _ _ _)) rfl ⟨k4, b4, bn4, s4, i4, f4, c4, x4, rfl, (HKE.out.set8 (.inr rfl) _ _ _ _ _ _ _ _).sub (fun _ _ e => .inl e), below_set8 HB4.out (Nat.le_succ _) _ _ _ _ _ _ _ _⟩
end Go.Proofs.YtdddmehchfnppaaGreatDoor
namespace Go.Proofs.YtdddmehchfnppaaGreatDoor
open Go Go.RowKit Go.Proofs Fl

theorem RowV.same {e : TypeId} {w : World} {B g T : Nat} {F F' : Nat → Value} (h : RowV e w B g T F) (hF : ∀ j, j < T → F j = F' j) : RowV e w B g T F' := by
  have e2 : (List.range T).map F = (List.range T).map F' := List.map_congr_left fun j hj => hF j (List.mem_range.1 hj)
  unfold RowV at *
  rw [← e2]; exact h

set_option maxRecDepth 100000 in
set_option maxHeartbeats 1000000 in
theorem unpack_any (v : Value) (n : Nat) (l : Nat → Bool) (w : World) (hn : n ≤ 1048576) (hb : BitsIn w v n l) :
    Calls Tryz.prog 137 #[v] w fun e w' => ∃ g, e = .returned (.slice (some ⟨g, 0, none⟩) n n) ∧ RowV 4 w' w.heap.size g n (fun j => .bool (l j)) ∧ Below w.heap.size w w' := by
  have HBI := Lib.hid hb
  obtain ⟨b, o, c, rfl, _⟩ := hb
  obtain ⟨M, hM⟩ : ∃ M, M = (n + 63) / 64 := ⟨_, rfl⟩
  rw [← hM] at HBI ⊢
  have HAT := Lib.hid (fun j W (hj : j < n) (hw : Below w.heap.size w W) => bitV_at hn (HBI.out.below hw) j hj)
  have hmk := run_make_row' (P := Tryz.prog) 59 4 (.bool false) 1 Tryz.underlying59 info_bool rfl .i64 .i64 n (by omega) (by omega)
  have hs1 : (w.alloc (.cells #[.slice (some ⟨b, o, none⟩) M c, .int .i64 (n : Int)] 26)).heap.size = w.heap.size + 1 := by simp
  have HB0 := Lib.hid (bel2 w (.cells #[.slice (some ⟨b, o, none⟩) M c, .int .i64 (n : Int)] 26) (.cells (madeCells #[.bool false] n) 4))
  have HK0 := Lib.hid (block_up (bel1 (w.alloc (.cells #[.slice (some ⟨b, o, none⟩) M c, .int .i64 (n : Int)] 26)) (.cells (madeCells #[.bool false] n) 4)))
  have HR0 := Lib.hid (RowV.made 4 (.bool false) (w.alloc (.cells #[.slice (some ⟨b, o, none⟩) M c, .int .i64 (n : Int)] 26)) (w.heap.size + 1) (by rw [hs1]; omega) n (by unfold maxLen; omega))
  rw [hs1] at HR0
  clear hs1 hM
  go_enter Tryz.func137, Tryz.ntmps137
  go_wp2_with fail
  go_loopw [10] (fun ii wr => ∃ i : Nat, i ≤ n ∧ ii = .int .i64 i ∧ RowV 4 wr (w.heap.size + 1) (w.heap.size + 1) n (fun j => if j < i then .bool (l j) else .bool false) ∧ Below w.heap.size w wr ∧ wr.heap[w.heap.size]? = some (.cells #[.slice (some ⟨b, o, none⟩) M c, .int .i64 (n : Int)] 26)) (fun ii _ => n - (intOf ii).toNat)
  case atStart => exact ⟨0, Nat.zero_le _, rfl, HR0.out.same (fun j _ => by rw [if_neg (Nat.not_lt_zero _)]), HB0.out, HK0.out⟩
  case round =>
    clear HR0 HB0 HK0 hmk
    obtain ⟨i, hi, rfl, hrow, hbl, hk⟩ := hrel
    have HROW := Lib.hid hrow
    have HBL := Lib.hid hbl
    have HK := Lib.hid hk
    clear hrow hbl hk
    by_cases hlt : i < n
    · obtain ⟨p0, p1, pf⟩ := pair_of HK.out
      have HATI := Lib.hid (HAT.out i wr hlt HBL.out)
      go_wp2_with fail
      refine HATI.out.mono ?_
      rintro e w4 ⟨rfl, hb4⟩
      have HROW4 := Lib.hid (HROW.out.below hb4)
      have HBL4 := Lib.hid (bel_both HBL.out hb4)
      have HK4 := Lib.hid (show w4.heap[w.heap.size]? = some (.cells #[.slice (some ⟨b, o, none⟩) M c, .int .i64 (n : Int)] 26) by rw [hb4.block _ (lt_of_block HK.out)]; exact HK.out)
      clear hb4 p0 p1 pf HATI
      have hcw := HROW4.out.cell hlt
      have hfw := HROW4.out.frozen i
      have HROW5 := Lib.hid ((HROW4.out.put hlt (.bool (l i))).same (F' := fun j => if j < i + 1 then .bool (l j) else .bool false) (fun j _ => by
        by_cases e : j = i
        · rw [if_pos e, if_pos (by omega), e]
        · rw [if_neg e]
          by_cases h2 : j < i
          · rw [if_pos h2, if_pos (by omega)]
          · rw [if_neg h2, if_neg (by omega)]))
      have HBL5 := Lib.hid (HBL4.out.setCell (p := ⟨w.heap.size + 1, i, none⟩) (by show _ ≤ w.heap.size + 1; omega) (.bool (l i)))
      have HK5 := Lib.hid ((Below.heap_setCell w4 ⟨w.heap.size + 1, i, none⟩ (.bool (l i)) w.heap.size (by show _ ≠ w.heap.size + 1; omega)).trans HK4.out)
      generalize l i = li at *
      go_wp2
      go_roundw
      case rel => exact ⟨i + 1, by omega, by go_num, HROW5.out, HBL5.out, HK5.out⟩
      case measure => simp [intOf]; omega
    · obtain rfl : i = n := by omega
      have HR := Lib.hid (HROW.out.same (F' := fun j => .bool (l j)) (fun j hj => by rw [if_pos hj]))
      go_wp2
      go_ret
      exact ⟨_, rfl, Own1.lower HR.out (Nat.le_succ _), HBL.out⟩
end Go.Proofs.YtdddmehchfnppaaGreatDoor
namespace Go.Proofs.YtdddmehchfnppaaGreatDoor
open Go Go.RowKit Go.Proofs Fl

set_option maxRecDepth 100000 in
set_option maxHeartbeats 1000000 in
theorem scan_few (q : Int) (hq : knownB q = true) (k : Int) (b : Sl) (bn : Int) (s i f c x : Sl) (outer n inner : Nat) (hn : n ≤ 1) (w : World)
    (hcls : ∀ W, Below w.heap.size w W → Calls Tryz.prog 31 #[vecW k b bn s i f c x] W fun e w2 => e = .returned (.int .i64 0) ∧ Below W.heap.size W w2) :
    Calls Tryz.prog 9 #[.int .i64 q, vecW k b bn s i f c x, .int .i64 (outer : Int), .int .i64 (n : Int), .int .i64 (inner : Int)] w fun e w' => e = .returned (.tuple #[vecW k b bn s i f c x, .int .i64 0]) ∧ Below w.heap.size w w' := by
  have HK := Lib.hid (fun W => hq ▸ known_any q W)
  have HS := Lib.hid (St.new w k (.slice b.1 b.2.1 b.2.2) bn (.slice s.1 s.2.1 s.2.2) (.slice i.1 i.2.1 i.2.2) (.slice f.1 f.2.1 f.2.2) (.slice c.1 c.2.1 c.2.2) (.slice x.1 x.2.1 x.2.2))
  have HC := Lib.hid hcls
  have o1 : ¬ (outer : Int) < 0 := by omega
  have r1 : ¬ (inner : Int) < 0 := by omega
  have n1 : ¬ (n : Int) < 0 := by omega
  have n2 : (n : Int) ≤ 1 := by omega
  clear hq hcls hn
  go_enter Tryz.func9, Tryz.ntmps9
  go_wp2_with fail
  refine (HK.out _).mono ?_
  rintro e w1 ⟨rfl, hw⟩
  rw [hw] at HS
  clear hw
  obtain ⟨h0, h1, h2, h3, h4, h5, h6, h7⟩ := HS.out.box
  go_wp2_with fail
  refine (HC.out _ HS.out.bel).mono ?_
  rintro e w2 ⟨rfl, hb2⟩
  have HS2 := Lib.hid (HS.out.step hb2)
  clear hb2 h0 h1 h2 h3 h4 h5 h6 h7 HS
  obtain ⟨h0, h1, h2, h3, h4, h5, h6, h7⟩ := HS2.out.box
  obtain ⟨⟨g0, g1, g2, g3, g4, g5, g6, g7⟩, gz⟩ := boxed_of HS2.out.res
  go_wp2
  refine bodyPost_ret (v := .tuple #[vecW k b bn s i f c x, .int .i64 0]) ?_ rfl ⟨rfl, below_set8 HS2.out.bel (Nat.le_succ _) _ _ _ _ _ _ _ _⟩
  exact ret_vec2 (fn := Tryz.f9) (p := 10) (u := 11) rfl _ _ (w.heap.size + 1) (by rfl) (set8_block HS2.out.res _ _ _ _ _ _ _ _)
end Go.Proofs.YtdddmehchfnppaaGreatDoor
