/- Merged texts. The walks of the reference's Product and of shape.Product. Conditions: as each theorem says. The reference's Product of any numbers; Finite of any float. Conditions: as each theorem says. The walk of the reference's Ints at shapes that are alike. Conditions: as each theorem says. The walks of slices.Equal over whole numbers, and of shape.Same. Conditions: at most 1048576 of them. The walk of Count over plain arrays. Conditions: at most 1048576 items. -/
import Derived.Test.YtiahegjdkejjpaaGreatMg11
import Derived.IntWalk
import Derived.Deep.QuietTactic
import Derived.BigQuiet
import Derived.Test.YtiahegjdkejjpaaGreatMg10
namespace Go.Proofs.YtiahegjdkejjpaaGreat
open Go Go.RowKit Go.Proofs Fl
theorem nat_open {w : World} {v : Value} {s : List Nat} (h : Reads1 w v (s.map fun n : Nat => .int .i64 (n : Int))) : ∃ A n c, v = .slice A n c ∧ n = s.length ∧
  ∀ i (hi : i < s.length), ∃ b o, A = some ⟨b, o, none⟩ ∧ w.cell? ⟨b, o + i, none⟩ = some (.int .i64 (s[i] : Nat)) := by
 rcases h with ⟨a, c, rfl, h0⟩ | ⟨b, o, n, c, rfl, hn, hc⟩
 ·have : s = [] := by simpa using h0
  subst this
  exact ⟨a, 0, c, rfl, rfl, fun i hi => by simp at hi⟩
 ·rw [List.length_map] at hn
  refine ⟨_, n, c, rfl, hn, fun i hi => ⟨b, o, rfl, ?_⟩⟩
  have := hc i (by simpa using hi)
  rw [this]
  simp
theorem take_mem {s : List Nat} {k : Nat} (h : k < s.length) : (0 ∈ s.take (k + 1)) ↔ (0 ∈ s.take k ∨ s[k] = 0) := by
 rw [List.take_succ_eq_append_getElem h, List.mem_append, List.mem_singleton]
 constructor
 ·rintro (h | h)
  ·exact .inl h
  ·exact .inr h.symm
 ·rintro (h | h)
  ·exact .inl h
  ·exact .inr h.symm
theorem prodE_8 {s : List Nat} {most : Int} (h : 8 < s.length) : prodE s most = (0, 26) := if_pos h
theorem prodE_big {s : List Nat} {most : Int} (h : 1048576 < prod1 s) : prodE s most = (0, 26) := by
 unfold prodE
 rw [if_pos h]
 split <;> rfl
theorem prodE_most {s : List Nat} {most : Int} (h : most < (prodN s : Int)) : prodE s most = (0, 26) := by
 unfold prodE
 rw [if_pos h]
 split
 ·rfl
 ·split <;> rfl
theorem prodE_all {s : List Nat} {most : Int} (h8 : ¬ 8 < s.length) (h1 : prod1 s ≤ 1048576) (hm : ¬ most < (prodN s : Int)) : prodE s most = ((prodN s : Int), 0) := by
 unfold prodE
 rw [if_neg h8, if_neg (by omega), if_neg hm]
theorem prod1_lt {s : List Nat} {k : Nat} (h : k < s.length) (hb : 1048576 < prod1 (s.take k) * max 1 s[k]) : 1048576 < prod1 s := by
 have h1 := prod1_take_le s (k + 1)
 rw [prod1_take s k h] at h1
 omega
set_option maxRecDepth 100000 in
set_option maxHeartbeats 2000000 in
theorem rprod_nat (v : Value) (s : List Nat) (most : Int) (w : World) (hv : Reads1 w v (s.map fun n : Nat => .int .i64 (n : Int))) (hl : s.length ≤ 1048576) :
  Calls Tryz.prog 60 #[v, .int .i64 most] w fun e w' => e = .returned (.tuple #[.int .i64 (prodE s most).1, .int .i64 (prodE s most).2]) ∧ w = w' := by
 obtain ⟨A, n, c, rfl, hn, hcell⟩ := nat_open hv
 obtain ⟨R, hR⟩ : ∃ R, R = prodE s most := ⟨_, rfl⟩
 rw [← hR]
 have HR := Lib.hid hR
 have HN := Lib.hid hn
 have HC := Lib.hid hcell
 have hnb : n ≤ 1048576 := by omega
 clear hv hl hn hcell hR
 by_cases h8 : 8 < n
 ·have HE : Hid (R = (0, 26)) := by unfold Hid; rw [HR.out]; exact prodE_8 (by have := HN.out; omega)
  have h8' : (8 : Int) < (n : Int) := by omega
  clear h8
  go_enter Tryz.func60, Tryz.ntmps60
  go_wp2
  go_ret2
  exact ⟨by rw [HE.out]; rfl, rfl⟩
 ·have h8' : ¬ (8 : Int) < (n : Int) := by omega
  have HPZ : Hid (∀ k (hk : k < s.length), prod1 (s.take (k + 1)) = prod1 (s.take k) * max 1 s[k]) := fun k hk => prod1_take s k hk
  have HTM : Hid (∀ k (hk : k < s.length), (0 ∈ s.take (k + 1)) ↔ (0 ∈ s.take k ∨ s[k] = 0)) := fun k hk => take_mem hk
  have HEL : Hid (∀ k (hk : k < s.length), s[k] ≤ prod1 s) := fun k hk => prod1_elem hk
  have HLT : Hid (∀ k (hk : k < s.length), 1048576 < prod1 (s.take k) * max 1 s[k] → 1048576 < prod1 s) := fun k hk h => prod1_lt hk h
  have HTK : Hid (s.take n = s) := by unfold Hid; rw [HN.out]; exact List.take_length
  go_enter Tryz.func60, Tryz.ntmps60
  go_wp2
  go_loopw [7, 8] (fun z i wr => ∃ (k : Nat) (t : Bool), k ≤ n ∧ i = .int .i64 (k : Int) ∧ z = .bool t ∧ Hid (t = decide (0 ∈ s.take k)) ∧ w = wr) (fun _ i _ => n - (intOf i).toNat)
  case atStart => exact ⟨0, false, Nat.zero_le _, rfl, rfl, by simp [Hid], rfl⟩
  case round =>
   obtain ⟨k, t, hk, rfl, rfl, ht, rfl⟩ := hrel
   by_cases hlt : k < n
   ·have hks : k < s.length := by have := HN.out; omega
    obtain ⟨b, o, rfl, hce⟩ := HC.out k hks
    have HT := Lib.hid (HTM.out k hks)
    generalize s[k] = d at hce HT
    have hd0 : ¬ (d : Int) < 0 := by omega
    have hlt2 : (k : Int) < (n : Int) := by omega
    cases t with
    | true =>
     have HT2 : Hid (true = decide (0 ∈ s.take (k + 1))) := by unfold Hid; symm; exact decide_eq_true (HT.out.2 (.inl (of_decide_eq_true ht.out.symm)))
     clear ht HT
     go_wp2
     go_roundw
     case rel => exact ⟨k + 1, true, by omega, by go_num, rfl, HT2.out, by trivial⟩
     case measure => simp [intOf]; omega
    | false =>
     by_cases hz : d = 0
     ·have HT2 : Hid (true = decide (0 ∈ s.take (k + 1))) := by unfold Hid; symm; exact decide_eq_true (HT.out.2 (.inr hz))
      subst hz
      clear ht HT
      go_wp2
      go_roundw
      case rel => exact ⟨k + 1, true, by omega, by go_num, rfl, HT2.out, by trivial⟩
      case measure => simp [intOf]; omega
     ·have HT2 : Hid (false = decide (0 ∈ s.take (k + 1))) := by
       unfold Hid; symm
       refine decide_eq_false fun h => ?_
       rcases HT.out.1 h with h | h
       ·exact of_decide_eq_false ht.out.symm h
       ·exact hz h
      have hz2 : ((d : Int) == 0) = false := by simp; omega
      clear ht HT hz
      go_wp2
      go_roundw
      case rel => exact ⟨k + 1, false, by omega, by go_num, rfl, HT2.out, by trivial⟩
      case measure => simp [intOf]; omega
   ·have hge : ¬ (k : Int) < (n : Int) := by omega
    have HZ : Hid (t = decide (0 ∈ s)) := by unfold Hid; rw [ht.out, show k = n by omega, HTK.out]
    clear ht HTM hlt
    go_wp2
    go_loopw [6, 9] (fun p i wr => ∃ (k q : Nat), k ≤ n ∧ i = .int .i64 (k : Int) ∧ p = .int .i64 (q : Int) ∧ q ≤ 1048576 ∧ 1 ≤ q ∧ Hid (q = prod1 (s.take k)) ∧ w = wr) (fun _ i _ => n - (intOf i).toNat)
    case atStart => exact ⟨0, 1, Nat.zero_le _, rfl, rfl, by omega, by omega, rfl, rfl⟩
    case round =>
     obtain ⟨k, q, hk, rfl, rfl, hq, hq1, hp, rfl⟩ := hrel
     by_cases hlt : k < n
     ·have hks : k < s.length := by have := HN.out; omega
      obtain ⟨b, o, rfl, hce⟩ := HC.out k hks
      have HP := Lib.hid (HPZ.out k hks)
      have HE := Lib.hid (HEL.out k hks)
      have HL := Lib.hid (HLT.out k hks)
      rw [← hp.out] at HP HL
      generalize s[k] = d at hce HP HE HL
      have hlt2 : (k : Int) < (n : Int) := by omega
      by_cases hbig : 1048576 < d
      ·have HX : Hid (R = (0, 26)) := by unfold Hid; rw [HR.out]; exact prodE_big (by have := HE.out; omega)
       have hbig2 : (1048576 : Int) < (d : Int) := by omega
       clear hp HP HE HL hbig
       go_wp2
       go_ret2
       exact ⟨by rw [HX.out]; rfl, rfl⟩
      ·have hbig2 : ¬ (1048576 : Int) < (d : Int) := by omega
       by_cases hz : d = 0
       ·have HQ : Hid (q = prod1 (s.take (k + 1))) := by unfold Hid; rw [HP.out, hz]; simp
        subst hz
        have hq2 : ¬ (1048576 : Int) < (q : Int) := by omega
        clear hp HP HE HL hbig
        go_wp2
        go_roundw
        case rel => exact ⟨k + 1, q, by omega, by go_num, rfl, hq, hq1, HQ.out, by trivial⟩
        case measure => simp [intOf]; omega
       ·have hz2 : 0 < (d : Int) := by omega
        obtain ⟨m, hm⟩ : ∃ m, m = q * d := ⟨_, rfl⟩
        have hm2 : (q : Int) * (d : Int) = (m : Int) := by rw [hm]; push_cast; rfl
        have hmb : m ≤ 1099511627776 := by rw [hm]; exact Nat.le_trans (Nat.mul_le_mul hq (show d ≤ 1048576 by omega)) (by decide)
        have hm1 : 1 ≤ m := by rw [hm]; exact Nat.mul_pos hq1 (by omega)
        have HQ : Hid (m = prod1 (s.take (k + 1))) := by unfold Hid; rw [HP.out, hm, Nat.max_eq_right (by omega)]
        by_cases hmm : 1048576 < m
        ·have HX : Hid (R = (0, 26)) := by
          unfold Hid; rw [HR.out]
          refine prodE_big (HL.out ?_)
          rw [Nat.max_eq_right (by omega), ← hm]; exact hmm
         have hmm2 : (1048576 : Int) < (m : Int) := by omega
         clear hp HP HE HL hbig hm hz hmm HQ
         go_wp2
         go_ret2
         exact ⟨by rw [HX.out]; rfl, rfl⟩
        ·have hmm2 : ¬ (1048576 : Int) < (m : Int) := by omega
         clear hp HP HE HL hbig hm hz
         go_wp2
         go_roundw
         case rel => exact ⟨k + 1, m, by omega, by go_num, rfl, by omega, hm1, HQ.out, by trivial⟩
         case measure => simp [intOf]; omega
     ·have hge : ¬ (k : Int) < (n : Int) := by omega
      have HQ : Hid (q = prod1 s) := by unfold Hid; rw [hp.out, show k = n by omega, HTK.out]
      clear hp hlt
      cases t with
      | true =>
       have HP0 : Hid (prodN s = 0) := by unfold Hid; exact prodN_zero (of_decide_eq_true HZ.out.symm)
       by_cases hmo : most < 0
       ·have HX : Hid (R = (0, 26)) := by unfold Hid; rw [HR.out]; exact prodE_most (by rw [HP0.out]; exact hmo)
        clear HPZ HEL HLT HC
        go_wp2
        go_ret2
        exact ⟨by rw [HX.out]; rfl, rfl⟩
       ·have HX : Hid (R = (0, 0)) := by
         unfold Hid; rw [HR.out, prodE_all (by have := HN.out; omega) (by rw [← HQ.out]; exact hq) (by rw [HP0.out]; exact hmo), HP0.out]; rfl
        clear HPZ HEL HLT HC
        go_wp2
        go_ret2
        exact ⟨by rw [HX.out]; rfl, rfl⟩
      | false =>
       have HP0 : Hid (prodN s = q) := by unfold Hid; rw [HQ.out]; exact prodN_eq (of_decide_eq_false HZ.out.symm)
       by_cases hmo : most < (q : Int)
       ·have HX : Hid (R = (0, 26)) := by unfold Hid; rw [HR.out]; exact prodE_most (by rw [HP0.out]; exact hmo)
        clear HPZ HEL HLT HC
        go_wp2
        go_ret2
        exact ⟨by rw [HX.out]; rfl, rfl⟩
       ·have HX : Hid (R = ((q : Int), 0)) := by
         unfold Hid; rw [HR.out, prodE_all (by have := HN.out; omega) (by rw [← HQ.out]; exact hq) (by rw [HP0.out]; exact hmo), HP0.out]
        clear HPZ HEL HLT HC
        go_wp2
        go_ret2
        exact ⟨by rw [HX.out]; rfl, rfl⟩
set_option maxRecDepth 100000 in
set_option maxHeartbeats 1000000 in
theorem index_zero (v : Value) (s : List Nat) (w : World) (hv : Reads1 w v (s.map fun n : Nat => .int .i64 (n : Int))) (hl : s.length ≤ 1048576) :
  Calls Tryz.prog 94 #[v, .int .i64 0] w fun e w' => ∃ z : Int, e = .returned (.int .i64 z) ∧ decide (0 ≤ z) = decide (0 ∈ s) ∧ w = w' := by
 obtain ⟨A, n, c, rfl, hn, hcell⟩ := nat_open hv
 have HN := Lib.hid hn
 have HC := Lib.hid hcell
 have hnb : n ≤ 1048576 := by omega
 have HTM : Hid (∀ k (hk : k < s.length), (0 ∈ s.take (k + 1)) ↔ (0 ∈ s.take k ∨ s[k] = 0)) := fun k hk => take_mem hk
 have HMM : Hid (∀ k (hk : k < s.length), s[k] ∈ s) := fun k hk => List.getElem_mem hk
 have HTK : Hid (s.take n = s) := by unfold Hid; rw [hn]; exact List.take_length
 clear hv hl hn hcell
 go_enter Tryz.func94, Tryz.ntmps94
 go_wp2
 go_loopw [5, 8] (fun _ i wr => ∃ k : Nat, k ≤ n ∧ i = .int .i64 (k : Int) ∧ Hid (¬ 0 ∈ s.take k) ∧ w = wr) (fun _ i _ => n - (intOf i).toNat)
 case atStart => exact ⟨0, Nat.zero_le _, rfl, by simp [Hid], rfl⟩
 case round =>
  obtain ⟨k, hk, rfl, hno, rfl⟩ := hrel
  by_cases hlt : k < n
  ·have hks : k < s.length := by have := HN.out; omega
   obtain ⟨b, o, rfl, hce⟩ := HC.out k hks
   have HT := Lib.hid (HTM.out k hks)
   have HM := Lib.hid (HMM.out k hks)
   generalize s[k] = d at hce HT HM
   have hlt2 : (k : Int) < (n : Int) := by omega
   by_cases hz : d = 0
   ·have HY : Hid (decide (0 ≤ (k : Int)) = decide (0 ∈ s)) := by
     unfold Hid
     have h1 := HM.out
     rw [hz] at h1
     rw [decide_eq_true h1]
     exact decide_eq_true (by omega)
    subst hz
    clear hno HT HM
    go_wp2
    go_ret
    exact ⟨_, rfl, HY.out, rfl⟩
   ·have HT2 : Hid (¬ 0 ∈ s.take (k + 1)) := fun h => by
     rcases HT.out.1 h with h | h
     ·exact hno.out h
     ·exact hz h
    have hz2 : ((0 : Int) == (d : Int)) = false := by simp; omega
    clear hno HT HM hz
    go_wp2
    go_roundw
    case rel => exact ⟨k + 1, by omega, by go_num, HT2.out, by trivial⟩
    case measure => simp [intOf]; omega
  ·have hge : ¬ (k : Int) < (n : Int) := by omega
   have HZ : Hid (decide ((0 : Int) ≤ -1) = decide (0 ∈ s)) := by
    unfold Hid
    have h1 := hno.out
    rw [show k = n by omega, HTK.out] at h1
    rw [decide_eq_false h1]
    rfl
   clear hno hlt
   go_wp2
   go_ret
   exact ⟨_, rfl, decide_eq_decide.1 HZ.out, rfl⟩
set_option maxHeartbeats 400000 in
theorem contains_zero (v : Value) (s : List Nat) (w : World) (hv : Reads1 w v (s.map fun n : Nat => .int .i64 (n : Int))) (hl : s.length ≤ 1048576) :
  Calls Tryz.prog 62 #[v, .int .i64 0] w fun e w' => e = .returned (.bool (decide (0 ∈ s))) ∧ w = w' := by
 have HI := Lib.hid (index_zero v s w hv hl)
 clear hv hl
 go_enter Tryz.func62, Tryz.ntmps62
 go_wp2_with fail
 refine HI.out.mono ?_
 rintro e w1 ⟨z, rfl, hz, rfl⟩
 have HZ := Lib.hid hz
 clear hz
 go_wp2
 go_ret
 exact ⟨by rw [← HZ.out]; rfl, rfl⟩
theorem within_yes (n : Nat) (most : Int) (hn : n ≤ 1048576) (hm : ¬ most < (n : Int)) (w : World) : Calls Tryz.prog 63 #[.int .i64 (n : Int), .int .i64 most] w fun e w' => e = .returned (.tuple #[.int .i64 (n : Int), .int .i64 0]) ∧ w = w' := by
 have h1 : ¬ (1048576 : Int) < (n : Int) := by omega
 go_enter Tryz.func63, Tryz.ntmps63
 go_wp2
 go_ret2
 exact ⟨rfl, rfl⟩
theorem within_no (n : Nat) (most : Int) (hm : most < (n : Int)) (w : World) : Calls Tryz.prog 63 #[.int .i64 (n : Int), .int .i64 most] w fun e w' => e = .returned (.tuple #[.int .i64 0, .int .i64 26]) ∧ w = w' := by
 go_enter Tryz.func63, Tryz.ntmps63
 go_wp2
 go_ret2
 exact ⟨rfl, rfl⟩
theorem quo_lt {q d : Nat} (hq : 1 ≤ q) : 1048576 / q < d ↔ 1048576 < q * d := by
 rw [Nat.div_lt_iff_lt_mul (by omega), Nat.mul_comm]
theorem tdiv_nat (a q : Nat) : ((a : Nat) : Int).tdiv (q : Int) = ((a / q : Nat) : Int) := by
 rw [Int.tdiv_eq_ediv_of_nonneg (by omega)]
 exact (Int.natCast_ediv a q).symm
theorem ediv_nat (a q : Nat) : ((a : Nat) : Int) / (q : Int) = ((a / q : Nat) : Int) := (Int.natCast_ediv a q).symm
set_option maxRecDepth 100000 in
set_option maxHeartbeats 2000000 in
theorem product_any (v : Value) (s : List Nat) (most : Int) (w : World) (hv : Reads1 w v (s.map fun n : Nat => .int .i64 (n : Int))) (hl : s.length ≤ 1048576) :
  Calls Tryz.prog 43 #[v, .int .i64 most] w fun e w' => e = .returned (.tuple #[.int .i64 (prodE s most).1, .int .i64 (prodE s most).2]) ∧ w = w' := by
 have HCT := Lib.hid (contains_zero v s w hv hl)
 obtain ⟨A, n, c, rfl, hn, hcell⟩ := nat_open hv
 obtain ⟨R, hR⟩ : ∃ R, R = prodE s most := ⟨_, rfl⟩
 rw [← hR]
 have HR := Lib.hid hR
 have HN := Lib.hid hn
 have HC := Lib.hid hcell
 have hnb : n ≤ 1048576 := by omega
 clear hv hl hn hcell hR
 by_cases h8 : 8 < n
 ·have HE : Hid (R = (0, 26)) := by unfold Hid; rw [HR.out]; exact prodE_8 (by have := HN.out; omega)
  have h8' : (8 : Int) < (n : Int) := by omega
  clear h8
  go_enter Tryz.func43, Tryz.ntmps43
  go_wp2
  go_ret2
  exact ⟨by rw [HE.out]; rfl, rfl⟩
 ·have h8' : ¬ (8 : Int) < (n : Int) := by omega
  have HPZ : Hid (∀ k (hk : k < s.length), prod1 (s.take (k + 1)) = prod1 (s.take k) * max 1 s[k]) := fun k hk => prod1_take s k hk
  have HEL : Hid (∀ k (hk : k < s.length), s[k] ≤ prod1 s) := fun k hk => prod1_elem hk
  have HLT : Hid (∀ k (hk : k < s.length), 1048576 < prod1 (s.take k) * max 1 s[k] → 1048576 < prod1 s) := fun k hk h => prod1_lt hk h
  have HTK : Hid (s.take n = s) := by unfold Hid; rw [HN.out]; exact List.take_length
  go_enter Tryz.func43, Tryz.ntmps43
  go_wp2
  go_loopw [7, 16] (fun _ i wr => ∃ (k : Nat), k ≤ n ∧ i = .int .i64 (k : Int) ∧ w = wr) (fun _ i _ => n - (intOf i).toNat)
  case atStart => exact ⟨0, Nat.zero_le _, rfl, rfl⟩
  case round =>
   obtain ⟨k, hk, rfl, rfl⟩ := hrel
   by_cases hlt : k < n
   ·have hks : k < s.length := by have := HN.out; omega
    obtain ⟨b, o, rfl, hce⟩ := HC.out k hks
    generalize s[k] = d at hce
    have hd0 : ¬ (d : Int) < 0 := by omega
    have hlt2 : (k : Int) < (n : Int) := by omega
    go_wp2
    go_roundw
    case rel => exact ⟨k + 1, by omega, by go_num, by trivial⟩
    case measure => simp [intOf]; omega
   ·have hge : ¬ (k : Int) < (n : Int) := by omega
    clear hlt
    go_wp2
    go_loopw [8, 10, 25] (fun p _ i wr => ∃ (k q : Nat), k ≤ n ∧ i = .int .i64 (k : Int) ∧ p = .int .i64 (q : Int) ∧ q ≤ 1048576 ∧ 1 ≤ q ∧ Hid (q = prod1 (s.take k)) ∧ w = wr) (fun _ _ i _ => n - (intOf i).toNat)
    case atStart => exact ⟨0, 1, Nat.zero_le _, rfl, rfl, by omega, by omega, rfl, rfl⟩
    case round =>
     obtain ⟨k, q, hk, rfl, rfl, hq, hq1, hp, rfl⟩ := hrel
     by_cases hlt : k < n
     ·have hks : k < s.length := by have := HN.out; omega
      obtain ⟨b, o, rfl, hce⟩ := HC.out k hks
      have HP := Lib.hid (HPZ.out k hks)
      have HL := Lib.hid (HLT.out k hks)
      rw [← hp.out] at HP HL
      generalize s[k] = d at hce HP HL
      have hlt2 : (k : Int) < (n : Int) := by omega
      obtain ⟨r, hr⟩ : ∃ r, r = 1048576 / q := ⟨_, rfl⟩
      have hr2 : (1048576 : Int).tdiv (q : Int) = (r : Int) := by rw [hr]; exact tdiv_nat 1048576 q
      have hr3 : (1048576 : Int) / (q : Int) = (r : Int) := by rw [hr]; exact ediv_nat 1048576 q
      have hrb : r ≤ 1048576 := by rw [hr]; exact Nat.div_le_self _ _
      have hr1 : IntKind.i64.wrap ((1048576 : Int).tdiv (q : Int)) = (r : Int) := by rw [hr2]; exact IntWalk.i64_in _ (by omega)
      have hq0 : ¬ (q : Int) = 0 := by omega
      have hq0' : ¬ q = 0 := by omega
      have hiff : r < d ↔ 1048576 < q * d := by rw [hr]; exact quo_lt hq1
      by_cases hbig : r < d
      ·have HX : Hid (R = (0, 26)) := by
        unfold Hid; rw [HR.out]
        refine prodE_big (HL.out ?_)
        have h1 := hiff.1 hbig
        have h2 : q * d ≤ q * max 1 d := Nat.mul_le_mul_left _ (by omega)
        omega
       have hbig2 : (r : Int) < (d : Int) := by omega
       clear hp HP HL hbig hr hiff
       go_wp2
       go_ret2
       exact ⟨by rw [HX.out]; rfl, rfl⟩
      ·have hbig2 : ¬ (r : Int) < (d : Int) := by omega
       obtain ⟨m, hm⟩ : ∃ m, m = q * max 1 d := ⟨_, rfl⟩
       have hmx : max (1 : Int) (d : Int) = ((max 1 d : Nat) : Int) := by omega
       obtain ⟨x, hx⟩ : ∃ x, x = max 1 d := ⟨_, rfl⟩
       rw [← hx] at hmx hm
       have hm2 : (q : Int) * (x : Int) = (m : Int) := by rw [hm]; push_cast; rfl
       have hmb : m ≤ 1048576 := by
        have h1 : ¬ 1048576 < q * d := fun h => hbig (hiff.2 h)
        rw [hm, hx]
        by_cases hd : d = 0
        ·rw [hd]; simp; exact hq
        ·rw [Nat.max_eq_right (by omega)]; omega
       have hm1 : 1 ≤ m := by rw [hm]; exact Nat.mul_pos hq1 (by omega)
       have HQ : Hid (m = prod1 (s.take (k + 1))) := by unfold Hid; rw [HP.out, hm, hx]
       have hxb : x ≤ m := by rw [hm]; exact Nat.le_mul_of_pos_left _ hq1
       clear hp HP HL hbig hm hx hr hiff
       go_wp2
       go_roundw
       case rel => exact ⟨k + 1, m, by omega, by go_num, rfl, hmb, hm1, HQ.out, by trivial⟩
       case measure => simp [intOf]; omega
     ·have hge : ¬ (k : Int) < (n : Int) := by omega
      have HQ : Hid (q = prod1 s) := by unfold Hid; rw [hp.out, show k = n by omega, HTK.out]
      clear hp hlt HPZ HEL HLT HC
      by_cases hz : 0 ∈ s
      ·have HCT2 : Hid (Calls Tryz.prog 62 #[.slice A n c, .int .i64 0] w fun e w' => e = .returned (.bool true) ∧ w = w') := by
        have h := HCT.out
        rw [decide_eq_true hz] at h
        exact h
       have HP0 : Hid (prodN s = 0) := by unfold Hid; exact prodN_zero hz
       clear hz
       by_cases hmo : most < ((0 : Nat) : Int)
       ·have HX : Hid (R = (0, 26)) := by unfold Hid; rw [HR.out]; exact prodE_most (by rw [HP0.out]; exact hmo)
        have HW := Lib.hid (fun W => within_no 0 most hmo W)
        go_wp2_with fail
        refine HCT2.out.mono ?_
        rintro e w1 ⟨rfl, rfl⟩
        go_wp2_with fail
        refine (HW.out _).mono ?_
        rintro e w1 ⟨rfl, rfl⟩
        go_wp2
        go_ret2
        exact ⟨by rw [HX.out]; rfl, rfl⟩
       ·have HX : Hid (R = (0, 0)) := by
         unfold Hid; rw [HR.out, prodE_all (by have := HN.out; omega) (by rw [← HQ.out]; exact hq) (by rw [HP0.out]; exact hmo), HP0.out]; rfl
        have HW := Lib.hid (fun W => within_yes 0 most (by omega) hmo W)
        go_wp2_with fail
        refine HCT2.out.mono ?_
        rintro e w1 ⟨rfl, rfl⟩
        go_wp2_with fail
        refine (HW.out _).mono ?_
        rintro e w1 ⟨rfl, rfl⟩
        go_wp2
        go_ret2
        exact ⟨by rw [HX.out]; rfl, rfl⟩
      ·have HCT2 : Hid (Calls Tryz.prog 62 #[.slice A n c, .int .i64 0] w fun e w' => e = .returned (.bool false) ∧ w = w') := by
        have h := HCT.out
        rw [decide_eq_false hz] at h
        exact h
       have HP0 : Hid (prodN s = q) := by unfold Hid; rw [HQ.out]; exact prodN_eq hz
       clear hz
       by_cases hmo : most < (q : Int)
       ·have HX : Hid (R = (0, 26)) := by unfold Hid; rw [HR.out]; exact prodE_most (by rw [HP0.out]; exact hmo)
        have HW := Lib.hid (fun W => within_no q most hmo W)
        go_wp2_with fail
        refine HCT2.out.mono ?_
        rintro e w1 ⟨rfl, rfl⟩
        go_wp2_with fail
        refine (HW.out _).mono ?_
        rintro e w1 ⟨rfl, rfl⟩
        go_wp2
        go_ret2
        exact ⟨by rw [HX.out]; rfl, rfl⟩
       ·have HX : Hid (R = ((q : Int), 0)) := by
         unfold Hid; rw [HR.out, prodE_all (by have := HN.out; omega) (by rw [← HQ.out]; exact hq) (by rw [HP0.out]; exact hmo), HP0.out]
        have HW := Lib.hid (fun W => within_yes q most hq hmo W)
        go_wp2_with fail
        refine HCT2.out.mono ?_
        rintro e w1 ⟨rfl, rfl⟩
        go_wp2_with fail
        refine (HW.out _).mono ?_
        rintro e w1 ⟨rfl, rfl⟩
        go_wp2
        go_ret2
        exact ⟨by rw [HX.out]; rfl, rfl⟩
theorem int_open {w : World} {v : Value} {s : List Int} (h : Reads1 w v (s.map (Value.int .i64))) : ∃ A n c, v = .slice A n c ∧ n = s.length ∧
  ∀ i (hi : i < s.length), ∃ b o, A = some ⟨b, o, none⟩ ∧ w.cell? ⟨b, o + i, none⟩ = some (.int .i64 s[i]) := by
 rcases h with ⟨a, c, rfl, h0⟩ | ⟨b, o, n, c, rfl, hn, hc⟩
 ·have : s = [] := by simpa using h0
  subst this
  exact ⟨a, 0, c, rfl, rfl, fun i hi => by simp at hi⟩
 ·rw [List.length_map] at hn
  refine ⟨_, n, c, rfl, hn, fun i hi => ⟨b, o, rfl, ?_⟩⟩
  have := hc i (by simpa using hi)
  rw [this]
  simp
set_option maxRecDepth 100000 in
set_option maxHeartbeats 1000000 in
theorem rprod_neg (v : Value) (s : List Int) (most : Int) (K : Nat) (hK : K < s.length) (hneg : s[K] < 0) (hpos : ∀ j (h : j < s.length), j < K → 0 ≤ s[j]) (w : World) (hv : Reads1 w v (s.map (Value.int .i64))) (hl : s.length ≤ 1048576) :
  Calls Tryz.prog 60 #[v, .int .i64 most] w fun e w' => ∃ z : Int, e = .returned (.tuple #[.int .i64 0, .int .i64 z]) ∧ z ≠ 0 ∧ w = w' := by
 obtain ⟨A, n, c, rfl, hn, hcell⟩ := int_open hv
 have HN := Lib.hid hn
 have HC := Lib.hid hcell
 have HNG := Lib.hid (show ∀ (h : K < s.length), s[K] < 0 from fun _ => hneg)
 have HPS := Lib.hid hpos
 have hnb : n ≤ 1048576 := by omega
 have hKn : K < n := by omega
 clear hv hl hn hcell hpos hneg
 clear hK
 by_cases h8 : 8 < n
 ·have h8' : (8 : Int) < (n : Int) := by omega
  clear h8
  go_enter Tryz.func60, Tryz.ntmps60
  go_wp2
  go_ret2
  exact ⟨_, rfl, by decide, rfl⟩
 ·have h8' : ¬ (8 : Int) < (n : Int) := by omega
  go_enter Tryz.func60, Tryz.ntmps60
  go_wp2
  go_loopw [7, 8] (fun z i wr => ∃ (k : Nat) (t : Bool), k ≤ K ∧ i = .int .i64 (k : Int) ∧ z = .bool t ∧ w = wr) (fun _ i _ => n - (intOf i).toNat)
  case atStart => exact ⟨0, false, Nat.zero_le _, rfl, rfl, rfl⟩
  case round =>
   obtain ⟨k, t, hk, rfl, rfl, rfl⟩ := hrel
   have hks : k < s.length := by have := HN.out; omega
   obtain ⟨b, o, rfl, hce⟩ := HC.out k hks
   have hlt2 : (k : Int) < (n : Int) := by omega
   by_cases hlt : k < K
   ·have hd0' := HPS.out k hks hlt
    generalize s[k] = d at hce hd0'
    have hd0 : ¬ d < 0 := by omega
    cases t with
    | true =>
     go_wp2
     go_roundw
     case rel => exact ⟨k + 1, true, by omega, by go_num, rfl, by trivial⟩
     case measure => simp [intOf]; omega
    | false =>
     go_wp2
     go_roundw
     case rel => exact ⟨k + 1, d == 0, by omega, by go_num, rfl, by trivial⟩
     case measure => simp [intOf]; omega
   ·obtain rfl : k = K := by omega
    have hd0 := HNG.out hks
    generalize s[k] = d at hce hd0
    go_wp2
    go_ret2
    exact ⟨_, rfl, by decide, rfl⟩
theorem first_neg (s : List Int) : (∀ d ∈ s, 0 ≤ d) ∨ ∃ K, ∃ hK : K < s.length, s[K] < 0 ∧ ∀ j (h : j < s.length), j < K → 0 ≤ s[j] := by
 induction s with
 | nil => exact .inl fun d h => by cases h
 | cons x s ih =>
  by_cases hx : x < 0
  ·exact .inr ⟨0, by simp, by simpa using hx, fun j _ h => by omega⟩
  ·rcases ih with h | ⟨K, hK, h1, h2⟩
   ·exact .inl fun d hd => by
     cases List.mem_cons.1 hd with
     | inl e => omega
     | inr e => exact h d e
   ·refine .inr ⟨K + 1, by simpa using hK, by simpa using h1, fun j hj hjk => ?_⟩
    cases j with
    | zero => simp; omega
    | succ j => have := h2 j (by simpa using hj) (by omega); simpa using this
theorem rprod_any (v : Value) (s : List Int) (w : World) (hv : Reads1 w v (s.map (Value.int .i64))) (hl : s.length ≤ 1048576) :
  Calls Tryz.prog 60 #[v, .int .i64 1048576] w fun e w' => (∃ n z : Int, e = .returned (.tuple #[.int .i64 n, .int .i64 z]) ∧ (z = 0 → ∃ (sn : List Nat) (m : Nat), s = sn.map Int.ofNat ∧ OkSh sn m ∧ n = (m : Int))) ∧ w = w' := by
 rcases first_neg s with h | ⟨K, hK, h1, h2⟩
 ·have e : s = (s.map Int.toNat).map Int.ofNat := natL_of (by rintro ⟨d, hd, h0⟩; have := h d hd; omega)
  have hv2 : Reads1 w v ((s.map Int.toNat).map fun n : Nat => .int .i64 (n : Int)) := by
   have e2 : ((s.map Int.toNat).map fun n : Nat => Value.int .i64 (n : Int)) = s.map (Value.int .i64) := by
    conv => rhs; rw [e]
    rw [List.map_map (l := s.map Int.toNat)]
    rfl
   rw [e2]; exact hv
  refine (rprod_nat v (s.map Int.toNat) 1048576 w hv2 (by simpa using hl)).mono ?_
  rintro e' w' ⟨rfl, rfl⟩
  refine ⟨⟨_, _, rfl, fun hz => ?_⟩, rfl⟩
  rcases prodE_cases (s.map Int.toNat) 1048576 with ⟨h3, _⟩ | ⟨h3, h4, _⟩
  ·rw [h3] at hz; cases hz
  ·rw [h3]
   exact ⟨_, _, e, h4, rfl⟩
 ·refine (rprod_neg v s 1048576 K hK h1 h2 w hv hl).mono ?_
  rintro e' w' ⟨z, rfl, hz, rfl⟩
  exact ⟨⟨_, _, rfl, fun h => absurd h hz⟩, rfl⟩
theorem below_drewN {B : Nat} {a w : World} (h : Below B a w) (k : Nat) : Below B a (w.drewN k) := ⟨h.os, h.tape, h.output, h.size, h.block⟩
set_option maxRecDepth 100000 in
set_option maxHeartbeats 1600000 in
theorem ints_same (va vb : Value) (s : List Int) (w : World) (ha : Reads1 w va (s.map (Value.int .i64))) (hb : Reads1 w vb (s.map (Value.int .i64))) (hl : s.length ≤ 1048576) :
  Calls Tryz.prog 53 #[va, vb] w fun e w' => e = .returned (.bool true) ∧ Below w.heap.size w w' := by
 obtain ⟨A, n, c, rfl, hn, hcell⟩ := int_open ha
 obtain ⟨A2, n2, c2, rfl, hn2, hcell2⟩ := int_open hb
 obtain rfl : n2 = n := by omega
 have HC := Lib.hid hcell
 have HC2 := Lib.hid hcell2
 have HN := Lib.hid hn
 have hnb : n2 ≤ 1048576 := by omega
 have hne : ((n2 : Int) != (n2 : Int)) = false := by simp
 clear ha hb hl hn hn2 hcell hcell2
 go_enter Tryz.func53, Tryz.ntmps53
 go_wp2
 go_loopw [5] (fun i wr => ∃ k : Nat, k ≤ n2 ∧ i = .int .i64 (k : Int) ∧ Below w.heap.size w wr) (fun i _ => n2 - (intOf i).toNat)
 case atStart => exact ⟨0, Nat.zero_le _, rfl, Below.refl _ _⟩
 case round =>
  obtain ⟨k, hk, rfl, hbl⟩ := hrel
  have HBL := Lib.hid hbl
  by_cases hlt : k < n2
  ·have hks : k < s.length := by have := HN.out; omega
   obtain ⟨b, o, rfl, hce⟩ := HC.out k hks
   obtain ⟨b', o', rfl, hce'⟩ := HC2.out k hks
   have c1 := cell_up hbl hce
   have c2' := cell_up hbl hce'
   generalize s[k] = x at c1 c2'
   have hxe : (x != x) = false := by simp
   have hlt2 : (k : Int) < (n2 : Int) := by omega
   clear hce hce' hbl
   go_wp2
   go_quiet (fail)
   go_wp2
   go_roundw
   case rel => exact ⟨k + 1, by omega, by go_num, below_drewN HBL.out _⟩
   case measure => simp [intOf]; omega
  ·have hge : ¬ (k : Int) < (n2 : Int) := by omega
   clear hlt hbl
   go_wp2
   go_ret
   exact ⟨rfl, HBL.out⟩
theorem Reads1.opnI {w : World} {v : Value} {xs : List Value} (h : Reads1 w v xs) : ∃ A cc n, v = .slice A n cc ∧ n = xs.length ∧
  ∀ i (hi : i < xs.length), ∃ b o, A = some ⟨b, o, none⟩ ∧ ∀ w1, Below w.heap.size w w1 → w1.cell? ⟨b, o + i, none⟩ = some xs[i] := by
 rcases h with ⟨a, c, rfl, rfl⟩ | ⟨b, o, n, c, rfl, hn, hc⟩
 ·exact ⟨a, c, 0, rfl, rfl, fun i hi => by simp at hi⟩
 ·refine ⟨_, c, n, rfl, hn, fun i hi => ⟨b, o, rfl, fun w1 hb => ?_⟩⟩
  have := hc i hi
  rw [hb.cell (cell_lt this), this]
def allEqI {α : Type} (p : α → α → Bool) : List α → List α → Bool
 | [], [] => true
 | x :: xs, y :: ys => p x y && allEqI p xs ys
 | _, _ => false
theorem allEqI_len {α : Type} {p : α → α → Bool} : ∀ {a b : List α}, a.length ≠ b.length → allEqI p a b = false
 | [], [], h => by simp at h
 | [], _ :: _, _ => rfl
 | _ :: _, [], _ => rfl
 | x :: xs, y :: ys, h => by rw [allEqI, allEqI_len (a := xs) (b := ys) (by simpa using h)]; simp
theorem allEqI_step {α : Type} {p : α → α → Bool} {a b : List α} {k : Nat} (ha : k < a.length) (hb : k < b.length) : allEqI p (a.drop k) (b.drop k) = (p a[k] b[k] && allEqI p (a.drop (k + 1)) (b.drop (k + 1))) := by
 rw [List.drop_eq_getElem_cons ha, List.drop_eq_getElem_cons hb, allEqI]
theorem allEqI_end {α : Type} {p : α → α → Bool} {a b : List α} {k : Nat} (ha : a.length ≤ k) (hb : b.length ≤ k) : allEqI p (a.drop k) (b.drop k) = true := by
 rw [List.drop_eq_nil_of_le ha, List.drop_eq_nil_of_le hb]; rfl
def ieqI (a b : Int) : Bool := decide (a = b)
theorem allEqI_iff : ∀ {a b : List Int}, allEqI ieqI a b = decide (a = b)
 | [], [] => by simp [allEqI]
 | [], _ :: _ => by simp [allEqI]
 | _ :: _, [] => by simp [allEqI]
 | x :: xs, y :: ys => by
  rw [allEqI, allEqI_iff (a := xs) (b := ys)]
  unfold ieqI
  simp
set_option maxRecDepth 100000 in
set_option maxHeartbeats 1600000 in
theorem equalI_walk (va vb : Value) (la lb : List Int) (w : World) (ha : Reads1 w va (la.map (Value.int .i64))) (hb : Reads1 w vb (lb.map (Value.int .i64))) (hl : la.length ≤ 1048576) (hl2 : lb.length ≤ 1048576) :
  Calls Tryz.prog 58 #[va, vb] w fun e w' => e = .returned (.bool (allEqI ieqI la lb)) ∧ Below w.heap.size w w' := by
 obtain ⟨A, cc, n, rfl, hn, hcell⟩ := ha.opnI
 obtain ⟨A2, cc2, n2, rfl, hn2, hcell2⟩ := hb.opnI
 rw [List.length_map] at hn hn2
 have HC := Lib.hid hcell
 have HC2 := Lib.hid hcell2
 have HN := Lib.hid hn
 have HN2 := Lib.hid hn2
 have hb1 : n ≤ 1048576 := by omega
 have hb2 : n2 ≤ 1048576 := by omega
 obtain ⟨R, hR⟩ : ∃ R, R = allEqI ieqI la lb := ⟨_, rfl⟩
 have HR : Hid (R = allEqI ieqI (la.drop 0) (lb.drop 0)) := hR
 have HLE : Hid (la.length ≠ lb.length → R = false) := fun h => by rw [hR]; exact allEqI_len h
 have HST : Hid (∀ k (h1 : k < la.length) (h2 : k < lb.length), allEqI ieqI (la.drop k) (lb.drop k) = (ieqI la[k] lb[k] && allEqI ieqI (la.drop (k + 1)) (lb.drop (k + 1)))) := fun k h1 h2 => allEqI_step h1 h2
 have HEN : Hid (∀ k, la.length ≤ k → lb.length ≤ k → allEqI ieqI (la.drop k) (lb.drop k) = true) := fun k h1 h2 => allEqI_end h1 h2
 rw [← hR]
 clear hcell hcell2 hn hn2 ha hb hl hl2 hR
 by_cases hnn : n = n2
 ·subst hnn
  have hne : ((n : Int) != (n : Int)) = false := by simp
  go_enter Tryz.func58, Tryz.ntmps58
  go_wp2
  go_loopw [5, 13] (fun _ i wr => ∃ k : Nat, k ≤ n ∧ i = .int .i64 (k : Int) ∧ Below w.heap.size w wr ∧ Hid (R = allEqI ieqI (la.drop k) (lb.drop k))) (fun _ i _ => n - (intOf i).toNat)
  case atStart => exact ⟨0, Nat.zero_le _, rfl, Below.refl _ _, HR.out⟩
  case round =>
   obtain ⟨k, hk, rfl, hbl, heq⟩ := hrel
   have HBL := Lib.hid hbl
   by_cases hlt : k < n
   ·have h1 : k < la.length := by have := HN.out; omega
    have h2 : k < lb.length := by have := HN2.out; omega
    obtain ⟨b, o, rfl, hce⟩ := HC.out k (by rw [List.length_map]; exact h1)
    obtain ⟨b', o', rfl, hce'⟩ := HC2.out k (by rw [List.length_map]; exact h2)
    have c1 := hce _ hbl
    have c2 := hce' _ hbl
    rw [List.getElem_map] at c1 c2
    have HS := Lib.hid (HST.out k h1 h2)
    generalize la[k] = x at *
    generalize lb[k] = y at *
    skip
    cases hxy : ieqI x y with
    | true =>
     have HT : Hid (R = allEqI ieqI (la.drop (k + 1)) (lb.drop (k + 1))) := by unfold Hid; rw [heq.out, HS.out, hxy]; rfl
     obtain rfl : x = y := by unfold ieqI at hxy; simpa using hxy
     have hfe : (x != x) = false := by simp
     have hlt2 : (k : Int) < (n : Int) := by omega
     clear hxy heq hbl hce hce' HS
     go_wp2
     go_quiet (fail)
     go_wp2
     go_roundw
     case rel => exact ⟨k + 1, by omega, by go_num, below_drewN HBL.out _, HT.out⟩
     case measure => simp [intOf]; omega
    | false =>
     have HT : Hid (R = false) := by unfold Hid; rw [heq.out, HS.out, hxy]; rfl
     have hfe : (x != y) = true := by unfold ieqI at hxy; simpa using hxy
     have hlt2 : (k : Int) < (n : Int) := by omega
     clear hxy heq hbl hce hce' HS
     go_wp2
     go_quiet (fail)
     go_wp2
     go_ret
     exact ⟨by rw [HT.out]; rfl, below_drewN HBL.out _⟩
   ·have HT : Hid (R = true) := by unfold Hid; rw [heq.out, HEN.out k (by have := HN.out; omega) (by have := HN2.out; omega)]
    clear heq hbl
    go_wp2
    go_ret
    exact ⟨by rw [HT.out]; rfl, HBL.out⟩
 ·have HT : Hid (R = false) := HLE.out fun e => hnn (by rw [HN.out, HN2.out, e])
  have hne : ((n : Int) != (n2 : Int)) = true := by simp; omega
  go_enter Tryz.func58, Tryz.ntmps58
  go_wp2
  go_ret
  exact ⟨by rw [HT.out]; rfl, Below.refl _ _⟩
set_option maxRecDepth 100000 in
set_option maxHeartbeats 400000 in
theorem shSame_any {H1 H2 : Nat → Prop} {w0 : World} {h1 h2 : Sl} {s1 s2 : List Nat} (g1 : ShV H1 w0 h1 s1) (g2 : ShV H2 w0 h2 s2) (hl : s1.length ≤ 1048576) (hl2 : s2.length ≤ 1048576) (w : World) (hb : Below w0.heap.size w0 w) :
  Calls Tryz.prog 37 #[sv h1, sv h2] w fun e w' => e = .returned (.bool (decide (s1 = s2))) ∧ Below w.heap.size w w' := by
 have r1 : Reads1 w (sv h1) ((s1.map Int.ofNat).map (Value.int .i64)) := by
  rw [List.map_map]
  exact (Keeps.lat g1 (Lat.below hb)).now
 have r2 : Reads1 w (sv h2) ((s2.map Int.ofNat).map (Value.int .i64)) := by
  rw [List.map_map]
  exact (Keeps.lat g2 (Lat.below hb)).now
 have e : allEqI ieqI (s1.map Int.ofNat) (s2.map Int.ofNat) = decide (s1 = s2) := by
  rw [allEqI_iff]
  refine decide_eq_decide.2 ⟨fun h => ?_, fun h => by rw [h]⟩
  exact (List.map_inj_right (fun a b h => by injection h)).1 h
 have HE := Lib.hid (equalI_walk _ _ _ _ w r1 r2 (by simpa using hl) (by simpa using hl2))
 rw [e] at HE
 clear e r1 r2 g1 g2 hl hl2 hb
 go_enter Tryz.func37, Tryz.ntmps37
 go_wp2_with fail
 refine HE.out.mono ?_
 rintro e w1 ⟨rfl, hb⟩
 have HB := Lib.hid hb
 clear hb
 go_wp2
 go_ret
 exact ⟨rfl, HB.out⟩
def CntR (t : RP) (most : Int) (e : Ending) : Prop := ∃ n : Nat, e = .returned (.int .i64 (n : Int)) ∧ 1 ≤ n ∧ n ≤ cntP t ∧ ((n : Int) ≤ most → n = cntP t)
theorem at3_new (w : World) (h x : Sl) (f : Int) (e : TypeId) : At3 (w.alloc (.cells #[sv h, sv x, .int .i64 f] e)) w.heap.size 0 h x f := by
 have hc : ∀ j u, #[sv h, sv x, Value.int .i64 f][j]? = some u → (w.alloc (.cells #[sv h, sv x, .int .i64 f] e)).cell? ⟨w.heap.size, j, none⟩ = some u := by
  intro j u hu
  rw [cell_of_row _ w.heap.size j _ e (0, 0) (heap_alloc_new w _)]
  exact hu
 exact ⟨hc 0 _ rfl, hc 1 _ rfl, hc 2 _ rfl⟩
set_option maxRecDepth 100000 in
set_option maxHeartbeats 2000000 in
theorem cnt_walk (most : Int) : ∀ (N : Nat) (t : RP) (h x : Sl) (f : Int) (w : World), cntP t ≤ N → cntP t ≤ 1048576 → PV (fun _ => False) w t h x f →
  Calls Tryz.prog 7 #[plV h x f, .int .i64 most] w fun e w' => CntR t most e ∧ Below w.heap.size w w'
 | 0, t, _, _, _, _, h, _, _ => by have := cntP_pos t; omega
 | N + 1, .mk s items fill, h, x, f, w, hN, hM, hr => by
  obtain ⟨hsr, rfl, hx, hit⟩ := hr.open_
  obtain ⟨hA, hn, hc⟩ := h
  obtain ⟨A, m, cc⟩ := x
  obtain ⟨_, _, hse⟩ := RdH.len hsr
  have hn2 : hn = s.length := by
   have h1 : Value.slice hA hn hc = _ := hse
   injection h1 with _ h1 _
   simpa using h1
  dsimp only at hx hit
  clear hse hsr hr
  have hsz : cntP (.mk s items f) = items.length + s.length + 1 + cntIs items := by rw [cntP]
  rw [hsz] at hN hM
  have HSZ := Lib.hid hsz
  have HK := Lib.hid hit
  have HMI := Lib.hid hx
  have HNS := Lib.hid hn2
  have hmb : m ≤ 1048576 := by omega
  have hnb : hn ≤ 1048576 := by omega
  obtain ⟨B, hB⟩ : ∃ B, B = m + hn + 1 := ⟨_, rfl⟩
  have hB1 : (m : Int) + (hn : Int) + 1 = (B : Int) := by rw [hB]; push_cast; rfl
  have hBb : 1 ≤ B ∧ B ≤ 1048576 := by omega
  have HBB : Hid (B = items.length + s.length + 1) := by unfold Hid; omega
  have HIH : Hid (∀ t h x f w, cntP t ≤ N → cntP t ≤ 1048576 → PV (fun _ => False) w t h x f → Calls Tryz.prog 7 #[plV h x f, .int .i64 most] w fun e w' => CntR t most e ∧ Below w.heap.size w w') := cnt_walk most N
  have HTK : Hid (∀ i (hi : i < items.length), cntIs (items.take (i + 1)) = cntIs (items.take i) + cntI items[i]) := fun i hi => cntIs_take items i hi
  have HLE : Hid (∀ i, cntIs (items.take i) ≤ cntIs items) := fun i => cntIs_le items i
  have HN2 : Hid (B + cntIs items ≤ N + 1 ∧ B + cntIs items ≤ 1048576) := by unfold Hid; omega
  have HTL : Hid (cntIs (items.take m) = cntIs items) := by unfold Hid; rw [hx, List.take_length]
  have HX0 := Lib.hid (at3_new w (hA, hn, hc) (A, m, cc) f 25)
  have HB0 := Lib.hid (bel1 w (.cells #[.slice hA hn hc, .slice A m cc, .int .i64 f] 25))
  obtain ⟨hBb1, hBb2⟩ := hBb
  clear hx hn2 hsz hN hM hit hB
  go_enter Tryz.func7, Tryz.ntmps7
  go_wp2
  generalize w.alloc (.cells #[.slice hA hn hc, .slice A m cc, .int .i64 f] 25) = W at *
  go_loopw [5, 6, 7] (fun nv iv _ wr => ∃ (i n : Nat), i ≤ m ∧ iv = .int .i64 (i : Int) ∧ nv = .int .i64 (n : Int) ∧ 1 ≤ n ∧ n ≤ 1048576 ∧ Hid (n ≤ B + cntIs (items.take i) ∧ ((n : Int) ≤ most → n = B + cntIs (items.take i))) ∧ Below W.heap.size W wr) (fun _ iv _ _ => m - (intOf iv).toNat)
  case atStart => exact ⟨0, B, Nat.zero_le _, rfl, rfl, hBb1, hBb2, by simp [Hid, cntIs], Below.refl _ _⟩
  case round =>
   obtain ⟨i, n, hi, rfl, rfl, h1, h2, hq, hbl⟩ := hrel
   have HBL := Lib.hid hbl
   have HBW := Lib.hid (bel_both HB0.out hbl)
   obtain ⟨c0, c1, c2⟩ := HX0.out.of (w' := wr) fun j => hbl.cell (p := ⟨w.heap.size, j, none⟩) HX0.out.lt
   dsimp only [sv] at c0 c1
   clear hbl
   by_cases him : i < m
   ·have him2 : (i : Int) < (m : Int) := by omega
    by_cases hmo : (n : Int) ≤ most
    ·have hik : i < items.length := by have := HMI.out; omega
     obtain ⟨b, o, k', n', c', y, rfl, -, hiv, hat⟩ := HK.out i hik
     have HTN := Lib.hid (HTK.out i hik)
     obtain ⟨kind, num, char, box, hit⟩ : ∃ kind num char box, items[i] = .mk kind num char box := by cases items[i]; exact ⟨_, _, _, _, rfl⟩
     rw [hit] at hiv
     have hci : cntI items[i] = cntPs box := by rw [hit, cntI]
     rw [hci] at HTN
     obtain ⟨rfl, rfl, rfl, hy, hbx⟩ := hiv.open_
     obtain ⟨yA, ym, yc⟩ := y
     dsimp only at hy hbx
     have HY := Lib.hid hy
     have HBX := Lib.hid hbx
     have hbl2 : cntPs box ≤ 1048576 := by have := HTN.out; have := HLE.out (i + 1); have := HN2.out; omega
     have hlb : ∀ l : List RP, l.length ≤ cntPs l := fun l => by
      induction l with
      | nil => simp
      | cons t l ih => have := cntP_pos t; rw [cntPs]; simp; omega
     have hymb : ym ≤ 1048576 := by have := hlb box; omega
     have HPT : Hid (∀ i (hi : i < box.length), cntPs (box.take (i + 1)) = cntPs (box.take i) + cntP box[i]) := fun i hi => cntPs_take box i hi
     have HPL : Hid (∀ i, cntPs (box.take i) ≤ cntPs box) := fun i => cntPs_le box i
     have HPA : Hid (∀ i (hi : i < box.length), cntP box[i] ≤ cntPs box) := fun i hi => cntPs_at hi
     have HPM : Hid (cntPs (box.take ym) = cntPs box) := by unfold Hid; rw [hy, List.take_length]
     have HAT := Lib.hid hat
     have HWW := Lib.hid (show wr.heap.size ≤ wr.heap.size from Nat.le_refl _)
     have HQ := Lib.hid hq.out
     clear hy hbx hbl2 hlb hat hiv hit hci hq
     obtain ⟨w0, hw0⟩ : ∃ w0, w0 = wr := ⟨_, rfl⟩
     go_wp2
     go_loopw [5, 7] (fun nv kv wq => ∃ (k q : Nat), k ≤ ym ∧ kv = .int .i64 (k : Int) ∧ nv = .int .i64 (q : Int) ∧ 1 ≤ q ∧ q ≤ 1048576 ∧ Hid (q ≤ B + cntIs (items.take i) + cntPs (box.take k) ∧ ((q : Int) ≤ most → q = B + cntIs (items.take i) + cntPs (box.take k))) ∧ Below W.heap.size W wq) (fun _ kv _ => ym - (intOf kv).toNat)
     case atStart => exact ⟨0, n, Nat.zero_le _, rfl, rfl, h1, h2, by have := HQ.out; simp [Hid, cntPs]; exact this, HBL.out⟩
     case round =>
      clear c0 c1 c2 HBL HBW
      obtain ⟨k, q, hk, rfl, rfl, g1, g2, hq, hbl⟩ := hrel
      have HBL := Lib.hid hbl
      have HBW := Lib.hid (bel_both HB0.out hbl)
      obtain ⟨c0, c1, c2⟩ := HX0.out.of (w' := wr) fun j => hbl.cell (p := ⟨w.heap.size, j, none⟩) HX0.out.lt
      dsimp only [sv] at c0 c1
      obtain ⟨d0, d1, d2, d3⟩ := HAT.out wr (Lat.below HBW.out)
      dsimp only [sv] at d3
      clear hbl
      by_cases hkm : k < ym
      ·have hkm2 : (k : Int) < (ym : Int) := by omega
       by_cases hmo2 : (q : Int) ≤ most
       ·have hkb : k < box.length := by have := HY.out; omega
        obtain ⟨b2, o2, h', y', f', rfl, -, hpv, hat3⟩ := HBX.out k hkb
        obtain ⟨e0, e1, e2⟩ := hat3 wr (Lat.below HBW.out)
        have HPN := Lib.hid (HPT.out k hkb)
        have HIC := Lib.hid (HIH.out box[k] h' y' f' wr (by have := HPA.out k hkb; have := HTN.out; have := HLE.out (i + 1); have := HN2.out; omega) (by have := HPA.out k hkb; have := HTN.out; have := HLE.out (i + 1); have := HN2.out; omega) (hpv.step HBW.out))
        clear hpv hat3
        generalize box[k] = z at *
        go_wp2_with fail
        refine HIC.out.mono ?_
        rintro e w2 ⟨⟨r, rfl, r1, r2, r3⟩, hb⟩
        have HB2 := Lib.hid (bel_both HBL.out hb)
        have HR3 := Lib.hid r3
        have hqr : q + r ≤ 1048576 := by have := HPN.out; have := HPL.out (k + 1); have := HTN.out; have := HLE.out (i + 1); have := HN2.out; have := hq.out; omega
        have hqr1 : 1 ≤ q + r := by omega
        have HQ2 : Hid (q + r ≤ B + cntIs (items.take i) + cntPs (box.take (k + 1)) ∧ (((q + r : Nat) : Int) ≤ most → q + r = B + cntIs (items.take i) + cntPs (box.take (k + 1)))) := by
         have a1 := HPN.out
         have a2 := hq.out
         refine ⟨by omega, fun h => ?_⟩
         have a3 := HR3.out (by omega)
         have a4 := a2.2 (by omega)
         omega
        clear hb r3 hq
        go_wp2
        go_roundw
        case rel => exact ⟨k + 1, q + r, by omega, by go_num, by go_num, hqr1, hqr, HQ2.out, HB2.out⟩
        case measure => simp [intOf]; omega
       ·have HQ2 : Hid (q ≤ B + cntIs (items.take (i + 1)) ∧ ((q : Int) ≤ most → q = B + cntIs (items.take (i + 1)))) := by
         have a1 := HPL.out k
         have a2 := hq.out
         have a3 := HTN.out
         exact ⟨by omega, fun h => absurd h hmo2⟩
        clear hq
        go_wp2
        go_roundw
        case rel => exact ⟨i + 1, q, by omega, by go_num, rfl, g1, g2, HQ2.out, HBL.out⟩
        case measure => simp [intOf]; omega
      ·have hkm2 : ¬ (k : Int) < (ym : Int) := by omega
       have HQ2 : Hid (q ≤ B + cntIs (items.take (i + 1)) ∧ ((q : Int) ≤ most → q = B + cntIs (items.take (i + 1)))) := by
        have a1 := HPM.out
        have a2 := hq.out
        have a3 := HTN.out
        rw [show k = ym by omega] at a2
        exact ⟨by omega, fun h => by have := a2.2 h; omega⟩
       clear hq
       go_wp2
       go_roundw
       case rel => exact ⟨i + 1, q, by omega, by go_num, rfl, g1, g2, HQ2.out, HBL.out⟩
       case measure => simp [intOf]; omega
    ·have HF : Hid (CntR (.mk s items f) most (.returned (.int .i64 (n : Int)))) := ⟨n, rfl, h1, by rw [HSZ.out]; have := hq.out; have := HLE.out i; have := HBB.out; omega, fun h => absurd h hmo⟩
     clear hq
     go_wp2
     go_ret
     exact ⟨HF.out, HBW.out⟩
   ·have him2 : ¬ (i : Int) < (m : Int) := by omega
    have HF : Hid (CntR (.mk s items f) most (.returned (.int .i64 (n : Int)))) := ⟨n, rfl, h1, by rw [HSZ.out]; have := hq.out; have := HLE.out i; have := HBB.out; omega, fun h => by
     have a1 := hq.out.2 h
     rw [show i = m by omega, HTL.out] at a1
     rw [HSZ.out]; have := HBB.out; omega⟩
    clear hq
    go_wp2
    go_ret
    exact ⟨HF.out, HBW.out⟩
end Go.Proofs.YtiahegjdkejjpaaGreat
