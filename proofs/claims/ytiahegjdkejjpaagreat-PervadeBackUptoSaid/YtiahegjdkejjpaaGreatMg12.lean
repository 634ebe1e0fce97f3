/- Merged texts. The walks of the reference's Product and of shape.Product. Conditions: as each theorem says. The reference's Product of any numbers; Finite of any float. Conditions: as each theorem says. The walk of the reference's Ints at shapes that are alike. Conditions: as each theorem says. The walks of slices.Equal over whole numbers, and of shape.Same. Conditions: at most 1048576 of them. The walk of Count over plain arrays. Conditions: at most 1048576 items. The walk of Check over plain arrays. Conditions: at most 1048576 items. An array in a variable's own block: nine cells written, read and returned. Conditions: as each theorem says. -/
import Derived.Test.YtiahegjdkejjpaaGreatMg11
import Derived.IntWalk
import Derived.Deep.QuietTactic
import Derived.BigQuiet
import Derived.Test.YtiahegjdkejjpaaGreatMg10
namespace Go.Proofs.YtiahegjdkejjpaaGreat
open Go Go.RowKit Go.Proofs Fl

/-- a slice of numbers, written out -/
theorem nat_open {w : World} {v : Value} {s : List Nat} (h : Reads1 w v (s.map fun n : Nat => .int .i64 (n : Int))) : ∃ A n c, v = .slice A n c ∧ n = s.length ∧
    ∀ i (hi : i < s.length), ∃ b o, A = some ⟨b, o, none⟩ ∧ w.cell? ⟨b, o + i, none⟩ = some (.int .i64 (s[i] : Nat)) := by
  rcases h with ⟨a, c, rfl, h0⟩ | ⟨b, o, n, c, rfl, hn, hc⟩
  · have : s = [] := by simpa using h0
    subst this
    exact ⟨a, 0, c, rfl, rfl, fun i hi => by simp at hi⟩
  · rw [List.length_map] at hn
    refine ⟨_, n, c, rfl, hn, fun i hi => ⟨b, o, rfl, ?_⟩⟩
    have := hc i (by simpa using hi)
    rw [this]
    simp
theorem take_mem {s : List Nat} {k : Nat} (h : k < s.length) : (0 ∈ s.take (k + 1)) ↔ (0 ∈ s.take k ∨ s[k] = 0) := by
  rw [List.take_succ_eq_append_getElem h, List.mem_append, List.mem_singleton]
  constructor
  · rintro (h | h)
    · exact .inl h
    · exact .inr h.symm
  · rintro (h | h)
    · exact .inl h
    · exact .inr h.symm

theorem prodE_8 {s : List Nat} {most : Int} (h : 8 < s.length) : prodE s most = (0, 26) := if_pos h
theorem prodE_big {s : List Nat} {most : Int} (h : 1048576 < prod1 s) : prodE s most = (0, 26) := by
  unfold prodE
  rw [if_pos h]
  split <;> rfl
theorem prodE_most {s : List Nat} {most : Int} (h : most < (prodN s : Int)) : prodE s most = (0, 26) := by
  unfold prodE
  rw [if_pos h]
  split
  · rfl
  · split <;> rfl
theorem prodE_all {s : List Nat} {most : Int} (h8 : ¬ 8 < s.length) (h1 : prod1 s ≤ 1048576) (hm : ¬ most < (prodN s : Int)) : prodE s most = ((prodN s : Int), 0) := by
  unfold prodE
  rw [if_neg h8, if_neg (by omega), if_neg hm]
theorem prod1_lt {s : List Nat} {k : Nat} (h : k < s.length) (hb : 1048576 < prod1 (s.take k) * max 1 s[k]) : 1048576 < prod1 s := by
  have h1 := prod1_take_le s (k + 1)
  rw [prod1_take s k h] at h1
  omega

set_option maxRecDepth 100000 in
set_option maxHeartbeats 1000000 in
theorem index_zero (v : Value) (s : List Nat) (w : World) (hv : Reads1 w v (s.map fun n : Nat => .int .i64 (n : Int))) (hl : s.length ≤ 1048576) :
    Calls Tryz.prog 94 #[v, .int .i64 0] w fun e w' => ∃ z : Int, e = .returned (.int .i64 z) ∧ decide (0 ≤ z) = decide (0 ∈ s) ∧ w = w' := by
  obtain ⟨A, n, c, rfl, hn, hcell⟩ := nat_open hv
  have HN := Lib.hid hn
  have HC := Lib.hid hcell
  have hnb : n ≤ 1048576 := by omega
  have HTM : Hid (∀ k (hk : k < s.length), (0 ∈ s.take (k + 1)) ↔ (0 ∈ s.take k ∨ s[k] = 0)) := fun k hk => take_mem hk
  have HMM : Hid (∀ k (hk : k < s.length), s[k] ∈ s) := fun k hk => List.getElem_mem hk
  have HTK : Hid (s.take n = s) := by unfold Hid; rw [hn]; exact List.take_length
  clear hv hl hn hcell
  go_enter Tryz.func94, Tryz.ntmps94
  go_wp2
  go_loopw [5, 8] (fun _ i wr => ∃ k : Nat, k ≤ n ∧ i = .int .i64 (k : Int) ∧ Hid (¬ 0 ∈ s.take k) ∧ w = wr) (fun _ i _ => n - (intOf i).toNat)
  case atStart => exact ⟨0, Nat.zero_le _, rfl, by simp [Hid], rfl⟩
  case round =>
    obtain ⟨k, hk, rfl, hno, rfl⟩ := hrel
    by_cases hlt : k < n
    · have hks : k < s.length := by have := HN.out; omega
      obtain ⟨b, o, rfl, hce⟩ := HC.out k hks
      have HT := Lib.hid (HTM.out k hks)
      have HM := Lib.hid (HMM.out k hks)
      generalize s[k] = d at hce HT HM
      have hlt2 : (k : Int) < (n : Int) := by omega
      by_cases hz : d = 0
      · have HY : Hid (decide (0 ≤ (k : Int)) = decide (0 ∈ s)) := by
          unfold Hid
          have h1 := HM.out
          rw [hz] at h1
          rw [decide_eq_true h1]
          exact decide_eq_true (by omega)
        subst hz
        clear hno HT HM
        go_wp2
        go_ret
        exact ⟨_, rfl, HY.out, rfl⟩
      · have HT2 : Hid (¬ 0 ∈ s.take (k + 1)) := fun h => by
          rcases HT.out.1 h with h | h
          · exact hno.out h
          · exact hz h
        have hz2 : ((0 : Int) == (d : Int)) = false := by simp; omega
        clear hno HT HM hz
        go_wp2
        go_roundw
        case rel => exact ⟨k + 1, by omega, by go_num, HT2.out, by trivial⟩
        case measure => simp [intOf]; omega
    · have hge : ¬ (k : Int) < (n : Int) := by omega
      have HZ : Hid (decide ((0 : Int) ≤ -1) = decide (0 ∈ s)) := by
        unfold Hid
        have h1 := hno.out
        rw [show k = n by omega, HTK.out] at h1
        rw [decide_eq_false h1]
        rfl
      clear hno hlt
      go_wp2
      go_ret
      exact ⟨_, rfl, decide_eq_decide.1 HZ.out, rfl⟩
set_option maxHeartbeats 400000 in
theorem contains_zero (v : Value) (s : List Nat) (w : World) (hv : Reads1 w v (s.map fun n : Nat => .int .i64 (n : Int))) (hl : s.length ≤ 1048576) :
    Calls Tryz.prog 62 #[v, .int .i64 0] w fun e w' => e = .returned (.bool (decide (0 ∈ s))) ∧ w = w' := by
  have HI := Lib.hid (index_zero v s w hv hl)
  clear hv hl
  go_enter Tryz.func62, Tryz.ntmps62
  go_wp2_with fail
  refine HI.out.mono ?_
  rintro e w1 ⟨z, rfl, hz, rfl⟩
  have HZ := Lib.hid hz
  clear hz
  go_wp2
  go_ret
  exact ⟨by rw [← HZ.out]; rfl, rfl⟩
theorem within_yes (n : Nat) (most : Int) (hn : n ≤ 1048576) (hm : ¬ most < (n : Int)) (w : World) : Calls Tryz.prog 63 #[.int .i64 (n : Int), .int .i64 most] w fun e w' => e = .returned (.tuple #[.int .i64 (n : Int), .int .i64 0]) ∧ w = w' := by
  have h1 : ¬ (1048576 : Int) < (n : Int) := by omega
  go_enter Tryz.func63, Tryz.ntmps63
  go_wp2
  go_ret2
  exact ⟨rfl, rfl⟩
theorem within_no (n : Nat) (most : Int) (hm : most < (n : Int)) (w : World) : Calls Tryz.prog 63 #[.int .i64 (n : Int), .int .i64 most] w fun e w' => e = .returned (.tuple #[.int .i64 0, .int .i64 26]) ∧ w = w' := by
  go_enter Tryz.func63, Tryz.ntmps63
  go_wp2
  go_ret2
  exact ⟨rfl, rfl⟩
theorem quo_lt {q d : Nat} (hq : 1 ≤ q) : 1048576 / q < d ↔ 1048576 < q * d := by
  rw [Nat.div_lt_iff_lt_mul (by omega), Nat.mul_comm]

theorem tdiv_nat (a q : Nat) : ((a : Nat) : Int).tdiv (q : Int) = ((a / q : Nat) : Int) := by
  rw [Int.tdiv_eq_ediv_of_nonneg (by omega)]
  exact (Int.natCast_ediv a q).symm
theorem ediv_nat (a q : Nat) : ((a : Nat) : Int) / (q : Int) = ((a / q : Nat) : Int) := (Int.natCast_ediv a q).symm
set_option maxRecDepth 100000 in
set_option maxHeartbeats 2000000 in
theorem product_any (v : Value) (s : List Nat) (most : Int) (w : World) (hv : Reads1 w v (s.map fun n : Nat => .int .i64 (n : Int))) (hl : s.length ≤ 1048576) :
    Calls Tryz.prog 43 #[v, .int .i64 most] w fun e w' => e = .returned (.tuple #[.int .i64 (prodE s most).1, .int .i64 (prodE s most).2]) ∧ w = w' := by
  have HCT := Lib.hid (contains_zero v s w hv hl)
  obtain ⟨A, n, c, rfl, hn, hcell⟩ := nat_open hv
  obtain ⟨R, hR⟩ : ∃ R, R = prodE s most := ⟨_, rfl⟩
  rw [← hR]
  have HR := Lib.hid hR
  have HN := Lib.hid hn
  have HC := Lib.hid hcell
  have hnb : n ≤ 1048576 := by omega
  clear hv hl hn hcell hR
  by_cases h8 : 8 < n
  · have HE : Hid (R = (0, 26)) := by unfold Hid; rw [HR.out]; exact prodE_8 (by have := HN.out; omega)
    have h8' : (8 : Int) < (n : Int) := by omega
    clear h8
    go_enter Tryz.func43, Tryz.ntmps43
    go_wp2
    go_ret2
    exact ⟨by rw [HE.out]; rfl, rfl⟩
  · have h8' : ¬ (8 : Int) < (n : Int) := by omega
    have HPZ : Hid (∀ k (hk : k < s.length), prod1 (s.take (k + 1)) = prod1 (s.take k) * max 1 s[k]) := fun k hk => prod1_take s k hk
    have HEL : Hid (∀ k (hk : k < s.length), s[k] ≤ prod1 s) := fun k hk => prod1_elem hk
    have HLT : Hid (∀ k (hk : k < s.length), 1048576 < prod1 (s.take k) * max 1 s[k] → 1048576 < prod1 s) := fun k hk h => prod1_lt hk h
    have HTK : Hid (s.take n = s) := by unfold Hid; rw [HN.out]; exact List.take_length
    go_enter Tryz.func43, Tryz.ntmps43
    go_wp2
    go_loopw [7, 16] (fun _ i wr => ∃ (k : Nat), k ≤ n ∧ i = .int .i64 (k : Int) ∧ w = wr) (fun _ i _ => n - (intOf i).toNat)
    case atStart => exact ⟨0, Nat.zero_le _, rfl, rfl⟩
    case round =>
      obtain ⟨k, hk, rfl, rfl⟩ := hrel
      by_cases hlt : k < n
      · have hks : k < s.length := by have := HN.out; omega
        obtain ⟨b, o, rfl, hce⟩ := HC.out k hks
        generalize s[k] = d at hce
        have hd0 : ¬ (d : Int) < 0 := by omega
        have hlt2 : (k : Int) < (n : Int) := by omega
        go_wp2
        go_roundw
        case rel => exact ⟨k + 1, by omega, by go_num, by trivial⟩
        case measure => simp [intOf]; omega
      · have hge : ¬ (k : Int) < (n : Int) := by omega
        clear hlt
        go_wp2
        go_loopw [8, 10, 25] (fun p _ i wr => ∃ (k q : Nat), k ≤ n ∧ i = .int .i64 (k : Int) ∧ p = .int .i64 (q : Int) ∧ q ≤ 1048576 ∧ 1 ≤ q ∧ Hid (q = prod1 (s.take k)) ∧ w = wr) (fun _ _ i _ => n - (intOf i).toNat)
        case atStart => exact ⟨0, 1, Nat.zero_le _, rfl, rfl, by omega, by omega, rfl, rfl⟩
        case round =>
          obtain ⟨k, q, hk, rfl, rfl, hq, hq1, hp, rfl⟩ := hrel
          by_cases hlt : k < n
          · have hks : k < s.length := by have := HN.out; omega
            obtain ⟨b, o, rfl, hce⟩ := HC.out k hks
            have HP := Lib.hid (HPZ.out k hks)
            have HL := Lib.hid (HLT.out k hks)
            rw [← hp.out] at HP HL
            generalize s[k] = d at hce HP HL
            have hlt2 : (k : Int) < (n : Int) := by omega
            obtain ⟨r, hr⟩ : ∃ r, r = 1048576 / q := ⟨_, rfl⟩
            have hr2 : (1048576 : Int).tdiv (q : Int) = (r : Int) := by rw [hr]; exact tdiv_nat 1048576 q
            have hr3 : (1048576 : Int) / (q : Int) = (r : Int) := by rw [hr]; exact ediv_nat 1048576 q
            have hrb : r ≤ 1048576 := by rw [hr]; exact Nat.div_le_self _ _
            have hr1 : IntKind.i64.wrap ((1048576 : Int).tdiv (q : Int)) = (r : Int) := by rw [hr2]; exact IntWalk.i64_in _ (by omega)
            have hq0 : ¬ (q : Int) = 0 := by omega
            have hq0' : ¬ q = 0 := by omega
            have hiff : r < d ↔ 1048576 < q * d := by rw [hr]; exact quo_lt hq1
            by_cases hbig : r < d
            · have HX : Hid (R = (0, 26)) := by
                unfold Hid; rw [HR.out]
                refine prodE_big (HL.out ?_)
                have h1 := hiff.1 hbig
                have h2 : q * d ≤ q * max 1 d := Nat.mul_le_mul_left _ (by omega)
                omega
              have hbig2 : (r : Int) < (d : Int) := by omega
              clear hp HP HL hbig hr hiff
              go_wp2
              go_ret2
              exact ⟨by rw [HX.out]; rfl, rfl⟩
            · have hbig2 : ¬ (r : Int) < (d : Int) := by omega
              obtain ⟨m, hm⟩ : ∃ m, m = q * max 1 d := ⟨_, rfl⟩
              have hmx : max (1 : Int) (d : Int) = ((max 1 d : Nat) : Int) := by omega
              obtain ⟨x, hx⟩ : ∃ x, x = max 1 d := ⟨_, rfl⟩
              rw [← hx] at hmx hm
              have hm2 : (q : Int) * (x : Int) = (m : Int) := by rw [hm]; push_cast; rfl
              have hmb : m ≤ 1048576 := by
                have h1 : ¬ 1048576 < q * d := fun h => hbig (hiff.2 h)
                rw [hm, hx]
                by_cases hd : d = 0
                · rw [hd]; simp; exact hq
                · rw [Nat.max_eq_right (by omega)]; omega
              have hm1 : 1 ≤ m := by rw [hm]; exact Nat.mul_pos hq1 (by omega)
              have HQ : Hid (m = prod1 (s.take (k + 1))) := by unfold Hid; rw [HP.out, hm, hx]
              have hxb : x ≤ m := by rw [hm]; exact Nat.le_mul_of_pos_left _ hq1
              clear hp HP HL hbig hm hx hr hiff
              go_wp2
              go_roundw
              case rel => exact ⟨k + 1, m, by omega, by go_num, rfl, hmb, hm1, HQ.out, by trivial⟩
              case measure => simp [intOf]; omega
          · have hge : ¬ (k : Int) < (n : Int) := by omega
            have HQ : Hid (q = prod1 s) := by unfold Hid; rw [hp.out, show k = n by omega, HTK.out]
            clear hp hlt HPZ HEL HLT HC
            by_cases hz : 0 ∈ s
            · have HCT2 : Hid (Calls Tryz.prog 62 #[.slice A n c, .int .i64 0] w fun e w' => e = .returned (.bool true) ∧ w = w') := by
                have h := HCT.out
                rw [decide_eq_true hz] at h
                exact h
              have HP0 : Hid (prodN s = 0) := by unfold Hid; exact prodN_zero hz
              clear hz
              by_cases hmo : most < ((0 : Nat) : Int)
              · have HX : Hid (R = (0, 26)) := by unfold Hid; rw [HR.out]; exact prodE_most (by rw [HP0.out]; exact hmo)
                have HW := Lib.hid (fun W => within_no 0 most hmo W)
                go_wp2_with fail
                refine HCT2.out.mono ?_
                rintro e w1 ⟨rfl, rfl⟩
                go_wp2_with fail
                refine (HW.out _).mono ?_
                rintro e w1 ⟨rfl, rfl⟩
                go_wp2
                go_ret2
                exact ⟨by rw [HX.out]; rfl, rfl⟩
              · have HX : Hid (R = (0, 0)) := by
                  unfold Hid; rw [HR.out, prodE_all (by have := HN.out; omega) (by rw [← HQ.out]; exact hq) (by rw [HP0.out]; exact hmo), HP0.out]; rfl
                have HW := Lib.hid (fun W => within_yes 0 most (by omega) hmo W)
                go_wp2_with fail
                refine HCT2.out.mono ?_
                rintro e w1 ⟨rfl, rfl⟩
                go_wp2_with fail
                refine (HW.out _).mono ?_
                rintro e w1 ⟨rfl, rfl⟩
                go_wp2
                go_ret2
                exact ⟨by rw [HX.out]; rfl, rfl⟩
            · have HCT2 : Hid (Calls Tryz.prog 62 #[.slice A n c, .int .i64 0] w fun e w' => e = .returned (.bool false) ∧ w = w') := by
                have h := HCT.out
                rw [decide_eq_false hz] at h
                exact h
              have HP0 : Hid (prodN s = q) := by unfold Hid; rw [HQ.out]; exact prodN_eq hz
              clear hz
              by_cases hmo : most < (q : Int)
              · have HX : Hid (R = (0, 26)) := by unfold Hid; rw [HR.out]; exact prodE_most (by rw [HP0.out]; exact hmo)
                have HW := Lib.hid (fun W => within_no q most hmo W)
                go_wp2_with fail
                refine HCT2.out.mono ?_
                rintro e w1 ⟨rfl, rfl⟩
                go_wp2_with fail
                refine (HW.out _).mono ?_
                rintro e w1 ⟨rfl, rfl⟩
                go_wp2
                go_ret2
                exact ⟨by rw [HX.out]; rfl, rfl⟩
              · have HX : Hid (R = ((q : Int), 0)) := by
                  unfold Hid; rw [HR.out, prodE_all (by have := HN.out; omega) (by rw [← HQ.out]; exact hq) (by rw [HP0.out]; exact hmo), HP0.out]
                have HW := Lib.hid (fun W => within_yes q most hq hmo W)
                go_wp2_with fail
                refine HCT2.out.mono ?_
                rintro e w1 ⟨rfl, rfl⟩
                go_wp2_with fail
                refine (HW.out _).mono ?_
                rintro e w1 ⟨rfl, rfl⟩
                go_wp2
                go_ret2
                exact ⟨by rw [HX.out]; rfl, rfl⟩
end Go.Proofs.YtiahegjdkejjpaaGreat
namespace Go.Proofs.YtiahegjdkejjpaaGreat
open Go Go.RowKit Go.Proofs Fl

theorem int_open {w : World} {v : Value} {s : List Int} (h : Reads1 w v (s.map (Value.int .i64))) : ∃ A n c, v = .slice A n c ∧ n = s.length ∧
    ∀ i (hi : i < s.length), ∃ b o, A = some ⟨b, o, none⟩ ∧ w.cell? ⟨b, o + i, none⟩ = some (.int .i64 s[i]) := by
  rcases h with ⟨a, c, rfl, h0⟩ | ⟨b, o, n, c, rfl, hn, hc⟩
  · have : s = [] := by simpa using h0
    subst this
    exact ⟨a, 0, c, rfl, rfl, fun i hi => by simp at hi⟩
  · rw [List.length_map] at hn
    refine ⟨_, n, c, rfl, hn, fun i hi => ⟨b, o, rfl, ?_⟩⟩
    have := hc i (by simpa using hi)
    rw [this]
    simp
end Go.Proofs.YtiahegjdkejjpaaGreat
namespace Go.Proofs.YtiahegjdkejjpaaGreat
open Go Go.RowKit Go.Proofs Fl

theorem below_drewN {B : Nat} {a w : World} (h : Below B a w) (k : Nat) : Below B a (w.drewN k) := ⟨h.os, h.tape, h.output, h.size, h.block⟩
set_option maxRecDepth 100000 in
set_option maxHeartbeats 1600000 in
theorem ints_same (va vb : Value) (s : List Int) (w : World) (ha : Reads1 w va (s.map (Value.int .i64))) (hb : Reads1 w vb (s.map (Value.int .i64))) (hl : s.length ≤ 1048576) :
    Calls Tryz.prog 53 #[va, vb] w fun e w' => e = .returned (.bool true) ∧ Below w.heap.size w w' := by
  obtain ⟨A, n, c, rfl, hn, hcell⟩ := int_open ha
  obtain ⟨A2, n2, c2, rfl, hn2, hcell2⟩ := int_open hb
  obtain rfl : n2 = n := by omega
  have HC := Lib.hid hcell
  have HC2 := Lib.hid hcell2
  have HN := Lib.hid hn
  have hnb : n2 ≤ 1048576 := by omega
  have hne : ((n2 : Int) != (n2 : Int)) = false := by simp
  clear ha hb hl hn hn2 hcell hcell2
  go_enter Tryz.func53, Tryz.ntmps53
  go_wp2
  go_loopw [5] (fun i wr => ∃ k : Nat, k ≤ n2 ∧ i = .int .i64 (k : Int) ∧ Below w.heap.size w wr) (fun i _ => n2 - (intOf i).toNat)
  case atStart => exact ⟨0, Nat.zero_le _, rfl, Below.refl _ _⟩
  case round =>
    obtain ⟨k, hk, rfl, hbl⟩ := hrel
    have HBL := Lib.hid hbl
    by_cases hlt : k < n2
    · have hks : k < s.length := by have := HN.out; omega
      obtain ⟨b, o, rfl, hce⟩ := HC.out k hks
      obtain ⟨b', o', rfl, hce'⟩ := HC2.out k hks
      have c1 := cell_up hbl hce
      have c2' := cell_up hbl hce'
      generalize s[k] = x at c1 c2'
      have hxe : (x != x) = false := by simp
      have hlt2 : (k : Int) < (n2 : Int) := by omega
      clear hce hce' hbl
      go_wp2
      go_quiet (fail)
      go_wp2
      go_roundw
      case rel => exact ⟨k + 1, by omega, by go_num, below_drewN HBL.out _⟩
      case measure => simp [intOf]; omega
    · have hge : ¬ (k : Int) < (n2 : Int) := by omega
      clear hlt hbl
      go_wp2
      go_ret
      exact ⟨rfl, HBL.out⟩
end Go.Proofs.YtiahegjdkejjpaaGreat
namespace Go.Proofs.YtiahegjdkejjpaaGreat
open Go Go.RowKit Go.Proofs Fl

theorem Reads1.opnI {w : World} {v : Value} {xs : List Value} (h : Reads1 w v xs) : ∃ A cc n, v = .slice A n cc ∧ n = xs.length ∧
    ∀ i (hi : i < xs.length), ∃ b o, A = some ⟨b, o, none⟩ ∧ ∀ w1, Below w.heap.size w w1 → w1.cell? ⟨b, o + i, none⟩ = some xs[i] := by
  rcases h with ⟨a, c, rfl, rfl⟩ | ⟨b, o, n, c, rfl, hn, hc⟩
  · exact ⟨a, c, 0, rfl, rfl, fun i hi => by simp at hi⟩
  · refine ⟨_, c, n, rfl, hn, fun i hi => ⟨b, o, rfl, fun w1 hb => ?_⟩⟩
    have := hc i hi
    rw [hb.cell (cell_lt this), this]

/-- two lists, element by element -/
def allEqI {α : Type} (p : α → α → Bool) : List α → List α → Bool
  | [], [] => true
  | x :: xs, y :: ys => p x y && allEqI p xs ys
  | _, _ => false
theorem allEqI_len {α : Type} {p : α → α → Bool} : ∀ {a b : List α}, a.length ≠ b.length → allEqI p a b = false
  | [], [], h => by simp at h
  | [], _ :: _, _ => rfl
  | _ :: _, [], _ => rfl
  | x :: xs, y :: ys, h => by rw [allEqI, allEqI_len (a := xs) (b := ys) (by simpa using h)]; simp
theorem allEqI_step {α : Type} {p : α → α → Bool} {a b : List α} {k : Nat} (ha : k < a.length) (hb : k < b.length) : allEqI p (a.drop k) (b.drop k) = (p a[k] b[k] && allEqI p (a.drop (k + 1)) (b.drop (k + 1))) := by
  rw [List.drop_eq_getElem_cons ha, List.drop_eq_getElem_cons hb, allEqI]
theorem allEqI_end {α : Type} {p : α → α → Bool} {a b : List α} {k : Nat} (ha : a.length ≤ k) (hb : b.length ≤ k) : allEqI p (a.drop k) (b.drop k) = true := by
  rw [List.drop_eq_nil_of_le ha, List.drop_eq_nil_of_le hb]; rfl

def ieqI (a b : Int) : Bool := decide (a = b)
theorem allEqI_iff : ∀ {a b : List Int}, allEqI ieqI a b = decide (a = b)
  | [], [] => by simp [allEqI]
  | [], _ :: _ => by simp [allEqI]
  | _ :: _, [] => by simp [allEqI]
  | x :: xs, y :: ys => by
    rw [allEqI, allEqI_iff (a := xs) (b := ys)]
    unfold ieqI
    simp

set_option maxRecDepth 100000 in
set_option maxHeartbeats 1600000 in
theorem equalI_walk (va vb : Value) (la lb : List Int) (w : World) (ha : Reads1 w va (la.map (Value.int .i64))) (hb : Reads1 w vb (lb.map (Value.int .i64))) (hl : la.length ≤ 1048576) (hl2 : lb.length ≤ 1048576) :
    Calls Tryz.prog 58 #[va, vb] w fun e w' => e = .returned (.bool (allEqI ieqI la lb)) ∧ Below w.heap.size w w' := by
  obtain ⟨A, cc, n, rfl, hn, hcell⟩ := ha.opnI
  obtain ⟨A2, cc2, n2, rfl, hn2, hcell2⟩ := hb.opnI
  rw [List.length_map] at hn hn2
  have HC := Lib.hid hcell
  have HC2 := Lib.hid hcell2
  have HN := Lib.hid hn
  have HN2 := Lib.hid hn2
  have hb1 : n ≤ 1048576 := by omega
  have hb2 : n2 ≤ 1048576 := by omega
  obtain ⟨R, hR⟩ : ∃ R, R = allEqI ieqI la lb := ⟨_, rfl⟩
  have HR : Hid (R = allEqI ieqI (la.drop 0) (lb.drop 0)) := hR
  have HLE : Hid (la.length ≠ lb.length → R = false) := fun h => by rw [hR]; exact allEqI_len h
  have HST : Hid (∀ k (h1 : k < la.length) (h2 : k < lb.length), allEqI ieqI (la.drop k) (lb.drop k) = (ieqI la[k] lb[k] && allEqI ieqI (la.drop (k + 1)) (lb.drop (k + 1)))) := fun k h1 h2 => allEqI_step h1 h2
  have HEN : Hid (∀ k, la.length ≤ k → lb.length ≤ k → allEqI ieqI (la.drop k) (lb.drop k) = true) := fun k h1 h2 => allEqI_end h1 h2
  rw [← hR]
  clear hcell hcell2 hn hn2 ha hb hl hl2 hR
  by_cases hnn : n = n2
  · subst hnn
    have hne : ((n : Int) != (n : Int)) = false := by simp
    go_enter Tryz.func58, Tryz.ntmps58
    go_wp2
    go_loopw [5, 13] (fun _ i wr => ∃ k : Nat, k ≤ n ∧ i = .int .i64 (k : Int) ∧ Below w.heap.size w wr ∧ Hid (R = allEqI ieqI (la.drop k) (lb.drop k))) (fun _ i _ => n - (intOf i).toNat)
    case atStart => exact ⟨0, Nat.zero_le _, rfl, Below.refl _ _, HR.out⟩
    case round =>
      obtain ⟨k, hk, rfl, hbl, heq⟩ := hrel
      have HBL := Lib.hid hbl
      by_cases hlt : k < n
      · have h1 : k < la.length := by have := HN.out; omega
        have h2 : k < lb.length := by have := HN2.out; omega
        obtain ⟨b, o, rfl, hce⟩ := HC.out k (by rw [List.length_map]; exact h1)
        obtain ⟨b', o', rfl, hce'⟩ := HC2.out k (by rw [List.length_map]; exact h2)
        have c1 := hce _ hbl
        have c2 := hce' _ hbl
        rw [List.getElem_map] at c1 c2
        have HS := Lib.hid (HST.out k h1 h2)
        generalize la[k] = x at *
        generalize lb[k] = y at *
        skip
        cases hxy : ieqI x y with
        | true =>
          have HT : Hid (R = allEqI ieqI (la.drop (k + 1)) (lb.drop (k + 1))) := by unfold Hid; rw [heq.out, HS.out, hxy]; rfl
          obtain rfl : x = y := by unfold ieqI at hxy; simpa using hxy
          have hfe : (x != x) = false := by simp
          have hlt2 : (k : Int) < (n : Int) := by omega
          clear hxy heq hbl hce hce' HS
          go_wp2
          go_quiet (fail)
          go_wp2
          go_roundw
          case rel => exact ⟨k + 1, by omega, by go_num, below_drewN HBL.out _, HT.out⟩
          case measure => simp [intOf]; omega
        | false =>
          have HT : Hid (R = false) := by unfold Hid; rw [heq.out, HS.out, hxy]; rfl
          have hfe : (x != y) = true := by unfold ieqI at hxy; simpa using hxy
          have hlt2 : (k : Int) < (n : Int) := by omega
          clear hxy heq hbl hce hce' HS
          go_wp2
          go_quiet (fail)
          go_wp2
          go_ret
          exact ⟨by rw [HT.out]; rfl, below_drewN HBL.out _⟩
      · have HT : Hid (R = true) := by unfold Hid; rw [heq.out, HEN.out k (by have := HN.out; omega) (by have := HN2.out; omega)]
        clear heq hbl
        go_wp2
        go_ret
        exact ⟨by rw [HT.out]; rfl, HBL.out⟩
  · have HT : Hid (R = false) := HLE.out fun e => hnn (by rw [HN.out, HN2.out, e])
    have hne : ((n : Int) != (n2 : Int)) = true := by simp; omega
    go_enter Tryz.func58, Tryz.ntmps58
    go_wp2
    go_ret
    exact ⟨by rw [HT.out]; rfl, Below.refl _ _⟩

set_option maxRecDepth 100000 in
set_option maxHeartbeats 400000 in
theorem shSame_any {H1 H2 : Nat → Prop} {w0 : World} {h1 h2 : Sl} {s1 s2 : List Nat} (g1 : ShV H1 w0 h1 s1) (g2 : ShV H2 w0 h2 s2) (hl : s1.length ≤ 1048576) (hl2 : s2.length ≤ 1048576) (w : World) (hb : Below w0.heap.size w0 w) :
    Calls Tryz.prog 37 #[sv h1, sv h2] w fun e w' => e = .returned (.bool (decide (s1 = s2))) ∧ Below w.heap.size w w' := by
  have r1 : Reads1 w (sv h1) ((s1.map Int.ofNat).map (Value.int .i64)) := by
    rw [List.map_map]
    exact (Keeps.lat g1 (Lat.below hb)).now
  have r2 : Reads1 w (sv h2) ((s2.map Int.ofNat).map (Value.int .i64)) := by
    rw [List.map_map]
    exact (Keeps.lat g2 (Lat.below hb)).now
  have e : allEqI ieqI (s1.map Int.ofNat) (s2.map Int.ofNat) = decide (s1 = s2) := by
    rw [allEqI_iff]
    refine decide_eq_decide.2 ⟨fun h => ?_, fun h => by rw [h]⟩
    exact (List.map_inj_right (fun a b h => by injection h)).1 h
  have HE := Lib.hid (equalI_walk _ _ _ _ w r1 r2 (by simpa using hl) (by simpa using hl2))
  rw [e] at HE
  clear e r1 r2 g1 g2 hl hl2 hb
  go_enter Tryz.func37, Tryz.ntmps37
  go_wp2_with fail
  refine HE.out.mono ?_
  rintro e w1 ⟨rfl, hb⟩
  have HB := Lib.hid hb
  clear hb
  go_wp2
  go_ret
  exact ⟨rfl, HB.out⟩
end Go.Proofs.YtiahegjdkejjpaaGreat
namespace Go.Proofs.YtiahegjdkejjpaaGreat
open Go Go.RowKit Go.Proofs Fl

/-- three cells of a new block -/
theorem at3_new (w : World) (h x : Sl) (f : Int) (e : TypeId) : At3 (w.alloc (.cells #[sv h, sv x, .int .i64 f] e)) w.heap.size 0 h x f := by
  have hc : ∀ j u, #[sv h, sv x, Value.int .i64 f][j]? = some u → (w.alloc (.cells #[sv h, sv x, .int .i64 f] e)).cell? ⟨w.heap.size, j, none⟩ = some u := by
    intro j u hu
    rw [cell_of_row _ w.heap.size j _ e (0, 0) (heap_alloc_new w _)]
    exact hu
  exact ⟨hc 0 _ rfl, hc 1 _ rfl, hc 2 _ rfl⟩

end Go.Proofs.YtiahegjdkejjpaaGreat
namespace Go.Proofs.YtiahegjdkejjpaaGreat
open Go Go.RowKit Go.Proofs Fl

theorem st_item (w : World) (k : Int) (x n : Nat) (c : Int) (y : Value) (e : TypeId) (md : Mode) :
    (store ⟨w.heap.size, 1, none⟩ (.float .f64 n) md).run Tryz.prog (w.alloc (.cells #[.int .i64 k, .float .f64 x, .int .i32 c, y] e)) = .ok () (w.alloc (.cells #[.int .i64 k, .float .f64 n, .int .i32 c, y] e)) := by
  have hg := heap_alloc_new w (.cells #[.int .i64 k, .float .f64 x, .int .i32 c, y] e)
  have hc : (w.alloc (.cells #[.int .i64 k, .float .f64 x, .int .i32 c, y] e)).cell? ⟨w.heap.size, 1, none⟩ = some (.float .f64 x) := by
    rw [cell_of_row _ w.heap.size 1 _ e (0, 0) hg]; rfl
  have hz : (w.alloc (.cells #[.int .i64 k, .float .f64 x, .int .i32 c, y] e)).frozen? ⟨w.heap.size, 1, none⟩ = false := frozen_of_row _ _ _ _ _ hg
  rw [store_float hc hz .f64 n md, World.setCell_alloc_at _ _ _ _ _ rfl]
  rfl
end Go.Proofs.YtiahegjdkejjpaaGreat
namespace Go.Proofs.YtiahegjdkejjpaaGreat
open Go Go.RowKit Go.Proofs Fl

/-- the object that a variable holding an array is -/
abbrev arrO (h : Sl) (p : V8) : Obj := .cells #[sv h, .int .i64 p.k, sv p.b, .int .i64 p.bn, sv p.s, sv p.i, sv p.f, sv p.c, sv p.x] 40
/-- the same of nothing -/
abbrev zeroO : Obj := arrO nilS zeroP
theorem at9_of {W : World} {G : Nat} {e : TypeId} {h : Sl} {p : V8} (hg : W.heap[G]? = some (.cells #[sv h, .int .i64 p.k, sv p.b, .int .i64 p.bn, sv p.s, sv p.i, sv p.f, sv p.c, sv p.x] e)) : At9 W G 0 h p ∧ ∀ j, W.frozen? ⟨G, j, none⟩ = false := by
  have hc : ∀ j u, #[sv h, .int .i64 p.k, sv p.b, .int .i64 p.bn, sv p.s, sv p.i, sv p.f, sv p.c, sv p.x][j]? = some u → W.cell? ⟨G, j, none⟩ = some u := by
    intro j u hu
    rw [cell_of_row _ G j _ e (0, 0) hg]
    exact hu
  exact ⟨⟨hc 0 _ rfl, hc 1 _ rfl, hc 2 _ rfl, hc 3 _ rfl, hc 4 _ rfl, hc 5 _ rfl, hc 6 _ rfl, hc 7 _ rfl, hc 8 _ rfl⟩, fun j => frozen_of_row _ _ j _ e hg⟩
theorem at9_new (w : World) (h : Sl) (p : V8) : At9 (w.alloc (arrO h p)) w.heap.size 0 h p := (at9_of (heap_alloc_new w _)).1
theorem At9.set {w : World} {G o : Nat} {h : Sl} {p : V8} (g : At9 w G o h p) {a : Addr} (ha : a.block ≠ G) (u : Value) : At9 (w.setCell a u) G o h p :=
  g.of fun _ => World.cell?_of_block (w := w) (Below.heap_setCell w a u G (fun e => ha e.symm))

/-- a block of nine cells written whole -/
abbrev set9 (w : World) (G : Nat) (a0 a1 a2 a3 a4 a5 a6 a7 a8 : Value) : World := (set8 w G a0 a1 a2 a3 a4 a5 a6 a7).setCell ⟨G, 8, none⟩ a8
theorem below_set9 {B : Nat} {w0 w : World} (h : Below B w0 w) {G : Nat} (hG : B ≤ G) (a0 a1 a2 a3 a4 a5 a6 a7 a8 : Value) : Below B w0 (set9 w G a0 a1 a2 a3 a4 a5 a6 a7 a8) := (below_set8 h hG _ _ _ _ _ _ _ _).setCell hG _
theorem set9_block {w : World} {G : Nat} {e : TypeId} {z0 z1 z2 z3 z4 z5 z6 z7 z8 : Value} (h : w.heap[G]? = some (.cells #[z0, z1, z2, z3, z4, z5, z6, z7, z8] e)) (a0 a1 a2 a3 a4 a5 a6 a7 a8 : Value) :
    (set9 w G a0 a1 a2 a3 a4 a5 a6 a7 a8).heap[G]? = some (.cells #[a0, a1, a2, a3, a4, a5, a6, a7, a8] e) := by
  have h0 := heap_setCell_same _ G 0 _ e a0 h
  rw [show (#[z0, z1, z2, z3, z4, z5, z6, z7, z8] : Array Value).setIfInBounds 0 a0 = #[a0, z1, z2, z3, z4, z5, z6, z7, z8] by simp] at h0
  have h1 := heap_setCell_same _ G 1 _ e a1 h0
  rw [show (#[a0, z1, z2, z3, z4, z5, z6, z7, z8] : Array Value).setIfInBounds 1 a1 = #[a0, a1, z2, z3, z4, z5, z6, z7, z8] by simp] at h1
  have h2 := heap_setCell_same _ G 2 _ e a2 h1
  rw [show (#[a0, a1, z2, z3, z4, z5, z6, z7, z8] : Array Value).setIfInBounds 2 a2 = #[a0, a1, a2, z3, z4, z5, z6, z7, z8] by simp] at h2
  have h3 := heap_setCell_same _ G 3 _ e a3 h2
  rw [show (#[a0, a1, a2, z3, z4, z5, z6, z7, z8] : Array Value).setIfInBounds 3 a3 = #[a0, a1, a2, a3, z4, z5, z6, z7, z8] by simp] at h3
  have h4 := heap_setCell_same _ G 4 _ e a4 h3
  rw [show (#[a0, a1, a2, a3, z4, z5, z6, z7, z8] : Array Value).setIfInBounds 4 a4 = #[a0, a1, a2, a3, a4, z5, z6, z7, z8] by simp] at h4
  have h5 := heap_setCell_same _ G 5 _ e a5 h4
  rw [show (#[a0, a1, a2, a3, a4, z5, z6, z7, z8] : Array Value).setIfInBounds 5 a5 = #[a0, a1, a2, a3, a4, a5, z6, z7, z8] by simp] at h5
  have h6 := heap_setCell_same _ G 6 _ e a6 h5
  rw [show (#[a0, a1, a2, a3, a4, a5, z6, z7, z8] : Array Value).setIfInBounds 6 a6 = #[a0, a1, a2, a3, a4, a5, a6, z7, z8] by simp] at h6
  have h7 := heap_setCell_same _ G 7 _ e a7 h6
  rw [show (#[a0, a1, a2, a3, a4, a5, a6, z7, z8] : Array Value).setIfInBounds 7 a7 = #[a0, a1, a2, a3, a4, a5, a6, a7, z8] by simp] at h7
  have h8 := heap_setCell_same _ G 8 _ e a8 h7
  rw [show (#[a0, a1, a2, a3, a4, a5, a6, a7, z8] : Array Value).setIfInBounds 8 a8 = #[a0, a1, a2, a3, a4, a5, a6, a7, a8] by simp] at h8
  exact h8
theorem arr_size : (Tryz.prog.info? 40).map (·.size) = some 9 := by kernel_rfl
theorem ret_arr {fn : Func} {p : Tmp} (h : fn.results = #[.cell p 40]) (tmps : Array Value) (w : World) (G : Nat) {e : TypeId} {a0 a1 a2 a3 a4 a5 a6 a7 a8 : Value}
    (hp : tmps.getD p undef = .pointer (some ⟨G, 0, none⟩)) (hg : w.heap[G]? = some (.cells #[a0, a1, a2, a3, a4, a5, a6, a7, a8] e)) :
    (results fn tmps).run Tryz.prog w = .ok (.agg #[a0, a1, a2, a3, a4, a5, a6, a7, a8]) w :=
  results_cell_row h tmps w G e _ (0, 0) _ hp hg Tryz.underlying40 rfl arr_size
theorem ret_arr2 {fn : Func} {p u : Tmp} (h : fn.results = #[.cell p 40, .tmp u]) (tmps : Array Value) (w : World) (G : Nat) {e : TypeId} {a0 a1 a2 a3 a4 a5 a6 a7 a8 : Value}
    (hp : tmps.getD p undef = .pointer (some ⟨G, 0, none⟩)) (hg : w.heap[G]? = some (.cells #[a0, a1, a2, a3, a4, a5, a6, a7, a8] e)) :
    (results fn tmps).run Tryz.prog w = .ok (.tuple #[.agg #[a0, a1, a2, a3, a4, a5, a6, a7, a8], tmps.getD u undef]) w := by
  rw [results_cell_tmp h, hp]
  have := run_loadVar_row (P := Tryz.prog) w G e 40 _ (0, 0) _ hg Tryz.underlying40 rfl arr_size
  simp [asAddr, Result.andThen, this]
end Go.Proofs.YtiahegjdkejjpaaGreat
