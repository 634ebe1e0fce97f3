/- Merged texts. The walk of scan.row. Conditions: the table of math/bits reads as its text lays it. The walk of bitvec.Truth. Conditions: as each theorem says. -/
import Derived.Test.YtdddmehchfnppaaGreatDoorMg29
import Derived.Test.YtdddmehchfnppaaGreatDoorMg28
import Derived.Test.YtdddmehchfnppaaGreatDoorMg07
namespace Go.Proofs.YtdddmehchfnppaaGreatDoor
open Go Go.RowKit Go.Proofs Fl

/-- packed truths that the call made -/
def NewBits (w : World) (n : Nat) (l : Nat → Bool) (v : Value) (w' : World) : Prop :=
  ∃ g, v = .agg #[.slice (some ⟨g, 0, none⟩) ((n + 63) / 64) ((n + 63) / 64), .int .i64 (n : Int)] ∧ RowU w' w.heap.size g ((n + 63) / 64) (packW l n)
theorem NewBits.bits {w w' : World} {n : Nat} {l : Nat → Bool} {v : Value} (h : NewBits w n l v w') : BitsIn w' v n l := by
  obtain ⟨g, rfl, hr⟩ := h
  exact .of_row hr
theorem nnot_any (v : Value) (n : Nat) (l : Nat → Bool) (w : World) (hn : n ≤ 1048576) (hb : BitsIn w v n l) :
    Calls Tryz.prog 109 #[v] w fun e w' => ∃ v', e = .returned v' ∧ NewBits w n (fun i => !l i) v' w' ∧ Below w.heap.size w w' := by
  obtain ⟨b, o, c, rfl, hc⟩ := hb
  refine (not_any b o c n l w hn hc).mono ?_
  rintro e w1 ⟨g, rfl, hr, hb⟩
  exact ⟨_, rfl, ⟨g, rfl, hr⟩, hb⟩
theorem nparity_any (v : Value) (n : Nat) (l : Nat → Bool) (w : World) (hn : n ≤ 1048576) (hb : BitsIn w v n l) :
    Calls Tryz.prog 110 #[v] w fun e w' => ∃ v', e = .returned v' ∧ NewBits w n (fun i => Go.Proofs.YtdddmehchfnppaaGreatDoor.pre l (i + 1)) v' w' ∧ Below w.heap.size w w' := by
  obtain ⟨b, o, c, rfl, hc⟩ := hb
  refine (parity_any b o c n l w hn hc).mono ?_
  rintro e w1 ⟨g, rfl, hr, hb⟩
  exact ⟨_, rfl, ⟨g, rfl, hr⟩, hb⟩
theorem nfill_any (v : Value) (n : Nat) (l : Nat → Bool) (w : World) (hn : n ≤ 1048576) (hb : BitsIn w v n l) (ht : TzTab w) :
    Calls Tryz.prog 108 #[v] w fun e w' => ∃ v' z, e = .returned v' ∧ FirstIs l n z ∧ NewBits w n (fromZ z) v' w' ∧ Below w.heap.size w w' := by
  refine (fill_any v n l w hn hb ht).mono ?_
  rintro e w1 ⟨z, g, hz, rfl, hr, hb⟩
  exact ⟨_, z, rfl, hz, ⟨g, rfl, hr⟩, hb⟩
theorem nfirst_any (v : Value) (n : Nat) (l : Nat → Bool) (w : World) (hn : n ≤ 1048576) (hb : BitsIn w v n l) (ht : TzTab w) :
    Calls Tryz.prog 111 #[v] w fun e w' => ∃ v' z, e = .returned v' ∧ FirstIs l n z ∧ NewBits w n (fun j => decide (j = z)) v' w' ∧ Below w.heap.size w w' := by
  refine (sfirst_any v n l w hn hb ht).mono ?_
  rintro e w1 ⟨z, g, hz, rfl, hr, hb⟩
  exact ⟨_, z, rfl, hz, ⟨g, rfl, hr⟩, hb⟩

/-- what a row of truths is scanned to -/
def SrL (q : Int) (l : Nat → Bool) (n : Nat) (L : Nat → Bool) : Prop :=
  ((q = 5 ∨ q = 22) ∧ ∃ z, FirstIs l n z ∧ L = fromZ z) ∨ ((q = 6 ∨ q = 3 ∨ q = 21) ∧ ∃ z, FirstIs (fun i => !l i) n z ∧ L = fun j => !fromZ z j) ∨
  (q = 16 ∧ L = fun j => Go.Proofs.YtdddmehchfnppaaGreatDoor.pre l (j + 1)) ∨ (q = 11 ∧ ∃ z, FirstIs l n z ∧ L = fun j => decide (j = z)) ∨ (q = 12 ∧ ∃ z, FirstIs (fun i => !l i) n z ∧ L = fun j => !decide (j = z))
/-- what row tells -/
def SrOut (q : Int) (l : Nat → Bool) (n : Nat) (w : World) (e : Ending) (w' : World) : Prop :=
  ((∃ g L, e = .returned (.tuple #[.agg #[.slice (some ⟨g, 0, none⟩) ((n + 63) / 64) ((n + 63) / 64), .int .i64 (n : Int)], .bool true]) ∧ RowU w' w.heap.size g ((n + 63) / 64) (packW L n) ∧ SrL q l n L) ∨
  e = .returned (.tuple #[.agg #[vnil, .int .i64 0], .bool false])) ∧ Below w.heap.size w w'

set_option maxRecDepth 100000 in
set_option maxHeartbeats 400000 in
theorem srow_fill (q : Int) (hq : q = 5 ∨ q = 22) (v : Value) (n : Nat) (l : Nat → Bool) (w : World) (hn : n ≤ 1048576) (hb : BitsIn w v n l) (ht : TzTab w) :
    Calls Tryz.prog 66 #[.int .i64 q, v] w (SrOut q l n w) := by
  have hbin := hb
  obtain ⟨b, o, c, rfl, _⟩ := hb
  obtain ⟨M, hM⟩ : ∃ M, M = (n + 63) / 64 := ⟨_, rfl⟩
  have HB0 := Lib.hid (bel2 w (.cells #[.slice (some ⟨b, o, none⟩) M c, .int .i64 (n : Int)] 26) (.cells bcells 26))
  have HK0 := Lib.hid (block_up (bel1 (w.alloc (.cells #[.slice (some ⟨b, o, none⟩) M c, .int .i64 (n : Int)] 26)) (.cells bcells 26)))
  have HK1 : Hid (((w.alloc (.cells #[.slice (some ⟨b, o, none⟩) M c, .int .i64 (n : Int)] 26)).alloc (.cells bcells 26)).heap[w.heap.size + 1]? = some (.cells bcells 26)) := by
    have h := heap_alloc_new (w.alloc (.cells #[.slice (some ⟨b, o, none⟩) M c, .int .i64 (n : Int)] 26)) (.cells bcells 26)
    have hs : (w.alloc (.cells #[.slice (some ⟨b, o, none⟩) M c, .int .i64 (n : Int)] 26)).heap.size = w.heap.size + 1 := by simp
    rw [hs] at h
    exact h
  have HBI := Lib.hid (hbin.below HB0.out)
  have HTZ := Lib.hid (ht.below HB0.out)
  have HNN := Lib.hid hn
  rw [← hM] at HBI ⊢
  have HMM := Lib.hid hM
  clear hbin ht hn hM
  rcases hq with rfl | rfl
  all_goals
    go_enter Tryz.func66, Tryz.ntmps66
    obtain ⟨p0, p1, pf⟩ := pair_of HK0.out
    go_wp2_with fail
    clear p0 p1 pf HK0
    generalize (w.alloc (.cells #[.slice (some ⟨b, o, none⟩) M c, .int .i64 (n : Int)] 26)).alloc (.cells bcells 26) = W0 at HB0 HK1 HBI HTZ ⊢
    refine (nfill_any _ n _ _ HNN.out HBI.out HTZ.out).mono ?_
    rintro e w3 ⟨v3, z, rfl, hz, hnb, hb3⟩
    have HZ := Lib.hid hz
    have HN3 := Lib.hid hnb
    have HBI3 := Lib.hid hnb.bits
    have HB3 := Lib.hid (bel_both HB0.out hb3)
    have HT3 := Lib.hid (HTZ.out.below hb3)
    have HS3 := Lib.hid HB0.out.size
    have HK3 := Lib.hid (show w3.heap[w.heap.size + 1]? = some (.cells bcells 26) by rw [hb3.block _ (lt_of_block HK1.out)]; exact HK1.out)
    have HKS3 := Lib.hid (lt_of_block HK1.out)
    clear hnb hb3 hz HBI HK1 HB0 HTZ
    obtain ⟨g, rfl, hr⟩ := HN3.out
    have hg := hr.low.1
    have hks := HKS3.out
    have HR := Lib.hid (hr.lower HS3.out)
    rw [← HMM.out] at HR
    rw [← HMM.out]
    clear hr
    obtain ⟨hk0, hk1, hkf⟩ := pair_of HK3.out
    go_wp2
    refine bodyPost_ret (v := .tuple #[.agg #[.slice (some ⟨g, 0, none⟩) M M, .int .i64 (n : Int)], .bool true]) (ret_bits2 (fn := Tryz.f66) (p := 4) (u := 5) rfl _ _ (w.heap.size + 1) (by rfl) (set2_block HK3.out _ _)) rfl ⟨.inl ⟨g, fromZ z, by rw [HMM.out], ?_, .inl ⟨by decide, z, HZ.out, rfl⟩⟩, below_set2 HB3.out (Nat.le_succ _) _ _⟩
    rw [← HMM.out]
    exact own_set2 HR.out (by show some g ≠ _; intro e; injection e; omega) _ _

set_option maxRecDepth 100000 in
set_option maxHeartbeats 400000 in
theorem srow_all (q : Int) (hq : q = 6 ∨ q = 3 ∨ q = 21) (v : Value) (n : Nat) (l : Nat → Bool) (w : World) (hn : n ≤ 1048576) (hb : BitsIn w v n l) (ht : TzTab w) :
    Calls Tryz.prog 66 #[.int .i64 q, v] w (SrOut q l n w) := by
  have hbin := hb
  obtain ⟨b, o, c, rfl, _⟩ := hb
  obtain ⟨M, hM⟩ : ∃ M, M = (n + 63) / 64 := ⟨_, rfl⟩
  have HB0 := Lib.hid (bel2 w (.cells #[.slice (some ⟨b, o, none⟩) M c, .int .i64 (n : Int)] 26) (.cells bcells 26))
  have HK0 := Lib.hid (block_up (bel1 (w.alloc (.cells #[.slice (some ⟨b, o, none⟩) M c, .int .i64 (n : Int)] 26)) (.cells bcells 26)))
  have HK1 : Hid (((w.alloc (.cells #[.slice (some ⟨b, o, none⟩) M c, .int .i64 (n : Int)] 26)).alloc (.cells bcells 26)).heap[w.heap.size + 1]? = some (.cells bcells 26)) := by
    have h := heap_alloc_new (w.alloc (.cells #[.slice (some ⟨b, o, none⟩) M c, .int .i64 (n : Int)] 26)) (.cells bcells 26)
    have hs : (w.alloc (.cells #[.slice (some ⟨b, o, none⟩) M c, .int .i64 (n : Int)] 26)).heap.size = w.heap.size + 1 := by simp
    rw [hs] at h
    exact h
  have HBI := Lib.hid (hbin.below HB0.out)
  have HTZ := Lib.hid (ht.below HB0.out)
  have HNN := Lib.hid hn
  rw [← hM] at HBI ⊢
  have HMM := Lib.hid hM
  clear hbin ht hn hM
  rcases hq with rfl | rfl | rfl
  all_goals
    go_enter Tryz.func66, Tryz.ntmps66
    obtain ⟨p0, p1, pf⟩ := pair_of HK0.out
    go_wp2_with fail
    clear p0 p1 pf HK0
    generalize (w.alloc (.cells #[.slice (some ⟨b, o, none⟩) M c, .int .i64 (n : Int)] 26)).alloc (.cells bcells 26) = W0 at HB0 HK1 HBI HTZ ⊢
    refine (nnot_any _ n _ _ HNN.out HBI.out).mono ?_
    rintro e w3 ⟨v3, rfl, hnb, hb3⟩
    have HN3 := Lib.hid hnb
    have HBI3 := Lib.hid hnb.bits
    have HB3 := Lib.hid (bel_both HB0.out hb3)
    have HT3 := Lib.hid (HTZ.out.below hb3)
    have HS3 := Lib.hid HB0.out.size
    have HK3 := Lib.hid (show w3.heap[w.heap.size + 1]? = some (.cells bcells 26) by rw [hb3.block _ (lt_of_block HK1.out)]; exact HK1.out)
    have HKS3 := Lib.hid (lt_of_block HK1.out)
    clear hnb hb3 HBI HK1 HB0 HTZ
    go_wp2_with fail
    refine (nfill_any _ n _ _ HNN.out HBI3.out HT3.out).mono ?_
    rintro e w4 ⟨v4, z, rfl, hz, hnb, hb4⟩
    have HZ := Lib.hid hz
    have HN4 := Lib.hid hnb
    have HBI4 := Lib.hid hnb.bits
    have HB4 := Lib.hid (bel_both HB3.out hb4)
    have HT4 := Lib.hid (HT3.out.below hb4)
    have HS4 := Lib.hid HB3.out.size
    have HK4 := Lib.hid (show w4.heap[w.heap.size + 1]? = some (.cells bcells 26) by rw [hb4.block _ (lt_of_block HK3.out)]; exact HK3.out)
    have HKS4 := Lib.hid (lt_of_block HK3.out)
    clear hnb hb4 hz HBI3 HK3 HB3 HT3
    go_wp2_with fail
    refine (nnot_any _ n _ _ HNN.out HBI4.out).mono ?_
    rintro e w5 ⟨v5, rfl, hnb, hb5⟩
    have HN5 := Lib.hid hnb
    have HBI5 := Lib.hid hnb.bits
    have HB5 := Lib.hid (bel_both HB4.out hb5)
    have HT5 := Lib.hid (HT4.out.below hb5)
    have HS5 := Lib.hid HB4.out.size
    have HK5 := Lib.hid (show w5.heap[w.heap.size + 1]? = some (.cells bcells 26) by rw [hb5.block _ (lt_of_block HK4.out)]; exact HK4.out)
    have HKS5 := Lib.hid (lt_of_block HK4.out)
    clear hnb hb5 HBI4 HK4 HB4 HT4
    obtain ⟨g, rfl, hr⟩ := HN5.out
    have hg := hr.low.1
    have hks := HKS5.out
    have HR := Lib.hid (hr.lower HS5.out)
    rw [← HMM.out] at HR
    rw [← HMM.out]
    clear hr
    obtain ⟨hk0, hk1, hkf⟩ := pair_of HK5.out
    go_wp2
    refine bodyPost_ret (v := .tuple #[.agg #[.slice (some ⟨g, 0, none⟩) M M, .int .i64 (n : Int)], .bool true]) (ret_bits2 (fn := Tryz.f66) (p := 4) (u := 5) rfl _ _ (w.heap.size + 1) (by rfl) (set2_block HK5.out _ _)) rfl ⟨.inl ⟨g, fun j => !fromZ z j, by rw [HMM.out], ?_, .inr (.inl ⟨by decide, z, HZ.out, rfl⟩)⟩, below_set2 HB5.out (Nat.le_succ _) _ _⟩
    rw [← HMM.out]
    exact own_set2 HR.out (by show some g ≠ _; intro e; injection e; omega) _ _

set_option maxRecDepth 100000 in
set_option maxHeartbeats 400000 in
theorem srow_par (q : Int) (hq : q = 16) (v : Value) (n : Nat) (l : Nat → Bool) (w : World) (hn : n ≤ 1048576) (hb : BitsIn w v n l) (ht : TzTab w) :
    Calls Tryz.prog 66 #[.int .i64 q, v] w (SrOut q l n w) := by
  have hbin := hb
  obtain ⟨b, o, c, rfl, _⟩ := hb
  obtain ⟨M, hM⟩ : ∃ M, M = (n + 63) / 64 := ⟨_, rfl⟩
  have HB0 := Lib.hid (bel2 w (.cells #[.slice (some ⟨b, o, none⟩) M c, .int .i64 (n : Int)] 26) (.cells bcells 26))
  have HK0 := Lib.hid (block_up (bel1 (w.alloc (.cells #[.slice (some ⟨b, o, none⟩) M c, .int .i64 (n : Int)] 26)) (.cells bcells 26)))
  have HK1 : Hid (((w.alloc (.cells #[.slice (some ⟨b, o, none⟩) M c, .int .i64 (n : Int)] 26)).alloc (.cells bcells 26)).heap[w.heap.size + 1]? = some (.cells bcells 26)) := by
    have h := heap_alloc_new (w.alloc (.cells #[.slice (some ⟨b, o, none⟩) M c, .int .i64 (n : Int)] 26)) (.cells bcells 26)
    have hs : (w.alloc (.cells #[.slice (some ⟨b, o, none⟩) M c, .int .i64 (n : Int)] 26)).heap.size = w.heap.size + 1 := by simp
    rw [hs] at h
    exact h
  have HBI := Lib.hid (hbin.below HB0.out)
  have HTZ := Lib.hid (ht.below HB0.out)
  have HNN := Lib.hid hn
  rw [← hM] at HBI ⊢
  have HMM := Lib.hid hM
  clear hbin ht hn hM
  subst hq
  all_goals
    go_enter Tryz.func66, Tryz.ntmps66
    obtain ⟨p0, p1, pf⟩ := pair_of HK0.out
    go_wp2_with fail
    clear p0 p1 pf HK0
    generalize (w.alloc (.cells #[.slice (some ⟨b, o, none⟩) M c, .int .i64 (n : Int)] 26)).alloc (.cells bcells 26) = W0 at HB0 HK1 HBI HTZ ⊢
    refine (nparity_any _ n _ _ HNN.out HBI.out).mono ?_
    rintro e w3 ⟨v3, rfl, hnb, hb3⟩
    have HN3 := Lib.hid hnb
    have HBI3 := Lib.hid hnb.bits
    have HB3 := Lib.hid (bel_both HB0.out hb3)
    have HT3 := Lib.hid (HTZ.out.below hb3)
    have HS3 := Lib.hid HB0.out.size
    have HK3 := Lib.hid (show w3.heap[w.heap.size + 1]? = some (.cells bcells 26) by rw [hb3.block _ (lt_of_block HK1.out)]; exact HK1.out)
    have HKS3 := Lib.hid (lt_of_block HK1.out)
    clear hnb hb3 HBI HK1 HB0 HTZ
    obtain ⟨g, rfl, hr⟩ := HN3.out
    have hg := hr.low.1
    have hks := HKS3.out
    have HR := Lib.hid (hr.lower HS3.out)
    rw [← HMM.out] at HR
    rw [← HMM.out]
    clear hr
    obtain ⟨hk0, hk1, hkf⟩ := pair_of HK3.out
    go_wp2
    refine bodyPost_ret (v := .tuple #[.agg #[.slice (some ⟨g, 0, none⟩) M M, .int .i64 (n : Int)], .bool true]) (ret_bits2 (fn := Tryz.f66) (p := 4) (u := 5) rfl _ _ (w.heap.size + 1) (by rfl) (set2_block HK3.out _ _)) rfl ⟨.inl ⟨g, fun j => Go.Proofs.YtdddmehchfnppaaGreatDoor.pre l (j + 1), by rw [HMM.out], ?_, .inr (.inr (.inl ⟨rfl, rfl⟩))⟩, below_set2 HB3.out (Nat.le_succ _) _ _⟩
    rw [← HMM.out]
    exact own_set2 HR.out (by show some g ≠ _; intro e; injection e; omega) _ _

set_option maxRecDepth 100000 in
set_option maxHeartbeats 400000 in
theorem srow_first (q : Int) (hq : q = 11) (v : Value) (n : Nat) (l : Nat → Bool) (w : World) (hn : n ≤ 1048576) (hb : BitsIn w v n l) (ht : TzTab w) :
    Calls Tryz.prog 66 #[.int .i64 q, v] w (SrOut q l n w) := by
  have hbin := hb
  obtain ⟨b, o, c, rfl, _⟩ := hb
  obtain ⟨M, hM⟩ : ∃ M, M = (n + 63) / 64 := ⟨_, rfl⟩
  have HB0 := Lib.hid (bel2 w (.cells #[.slice (some ⟨b, o, none⟩) M c, .int .i64 (n : Int)] 26) (.cells bcells 26))
  have HK0 := Lib.hid (block_up (bel1 (w.alloc (.cells #[.slice (some ⟨b, o, none⟩) M c, .int .i64 (n : Int)] 26)) (.cells bcells 26)))
  have HK1 : Hid (((w.alloc (.cells #[.slice (some ⟨b, o, none⟩) M c, .int .i64 (n : Int)] 26)).alloc (.cells bcells 26)).heap[w.heap.size + 1]? = some (.cells bcells 26)) := by
    have h := heap_alloc_new (w.alloc (.cells #[.slice (some ⟨b, o, none⟩) M c, .int .i64 (n : Int)] 26)) (.cells bcells 26)
    have hs : (w.alloc (.cells #[.slice (some ⟨b, o, none⟩) M c, .int .i64 (n : Int)] 26)).heap.size = w.heap.size + 1 := by simp
    rw [hs] at h
    exact h
  have HBI := Lib.hid (hbin.below HB0.out)
  have HTZ := Lib.hid (ht.below HB0.out)
  have HNN := Lib.hid hn
  rw [← hM] at HBI ⊢
  have HMM := Lib.hid hM
  clear hbin ht hn hM
  subst hq
  all_goals
    go_enter Tryz.func66, Tryz.ntmps66
    obtain ⟨p0, p1, pf⟩ := pair_of HK0.out
    go_wp2_with fail
    clear p0 p1 pf HK0
    generalize (w.alloc (.cells #[.slice (some ⟨b, o, none⟩) M c, .int .i64 (n : Int)] 26)).alloc (.cells bcells 26) = W0 at HB0 HK1 HBI HTZ ⊢
    refine (nfirst_any _ n _ _ HNN.out HBI.out HTZ.out).mono ?_
    rintro e w3 ⟨v3, z, rfl, hz, hnb, hb3⟩
    have HZ := Lib.hid hz
    have HN3 := Lib.hid hnb
    have HBI3 := Lib.hid hnb.bits
    have HB3 := Lib.hid (bel_both HB0.out hb3)
    have HT3 := Lib.hid (HTZ.out.below hb3)
    have HS3 := Lib.hid HB0.out.size
    have HK3 := Lib.hid (show w3.heap[w.heap.size + 1]? = some (.cells bcells 26) by rw [hb3.block _ (lt_of_block HK1.out)]; exact HK1.out)
    have HKS3 := Lib.hid (lt_of_block HK1.out)
    clear hnb hb3 hz HBI HK1 HB0 HTZ
    obtain ⟨g, rfl, hr⟩ := HN3.out
    have hg := hr.low.1
    have hks := HKS3.out
    have HR := Lib.hid (hr.lower HS3.out)
    rw [← HMM.out] at HR
    rw [← HMM.out]
    clear hr
    obtain ⟨hk0, hk1, hkf⟩ := pair_of HK3.out
    go_wp2
    refine bodyPost_ret (v := .tuple #[.agg #[.slice (some ⟨g, 0, none⟩) M M, .int .i64 (n : Int)], .bool true]) (ret_bits2 (fn := Tryz.f66) (p := 4) (u := 5) rfl _ _ (w.heap.size + 1) (by rfl) (set2_block HK3.out _ _)) rfl ⟨.inl ⟨g, fun j => decide (j = z), by rw [HMM.out], ?_, .inr (.inr (.inr (.inl ⟨rfl, z, HZ.out, rfl⟩)))⟩, below_set2 HB3.out (Nat.le_succ _) _ _⟩
    rw [← HMM.out]
    exact own_set2 HR.out (by show some g ≠ _; intro e; injection e; omega) _ _

set_option maxRecDepth 100000 in
set_option maxHeartbeats 400000 in
theorem srow_last (q : Int) (hq : q = 12) (v : Value) (n : Nat) (l : Nat → Bool) (w : World) (hn : n ≤ 1048576) (hb : BitsIn w v n l) (ht : TzTab w) :
    Calls Tryz.prog 66 #[.int .i64 q, v] w (SrOut q l n w) := by
  have hbin := hb
  obtain ⟨b, o, c, rfl, _⟩ := hb
  obtain ⟨M, hM⟩ : ∃ M, M = (n + 63) / 64 := ⟨_, rfl⟩
  have HB0 := Lib.hid (bel2 w (.cells #[.slice (some ⟨b, o, none⟩) M c, .int .i64 (n : Int)] 26) (.cells bcells 26))
  have HK0 := Lib.hid (block_up (bel1 (w.alloc (.cells #[.slice (some ⟨b, o, none⟩) M c, .int .i64 (n : Int)] 26)) (.cells bcells 26)))
  have HK1 : Hid (((w.alloc (.cells #[.slice (some ⟨b, o, none⟩) M c, .int .i64 (n : Int)] 26)).alloc (.cells bcells 26)).heap[w.heap.size + 1]? = some (.cells bcells 26)) := by
    have h := heap_alloc_new (w.alloc (.cells #[.slice (some ⟨b, o, none⟩) M c, .int .i64 (n : Int)] 26)) (.cells bcells 26)
    have hs : (w.alloc (.cells #[.slice (some ⟨b, o, none⟩) M c, .int .i64 (n : Int)] 26)).heap.size = w.heap.size + 1 := by simp
    rw [hs] at h
    exact h
  have HBI := Lib.hid (hbin.below HB0.out)
  have HTZ := Lib.hid (ht.below HB0.out)
  have HNN := Lib.hid hn
  rw [← hM] at HBI ⊢
  have HMM := Lib.hid hM
  clear hbin ht hn hM
  subst hq
  all_goals
    go_enter Tryz.func66, Tryz.ntmps66
    obtain ⟨p0, p1, pf⟩ := pair_of HK0.out
    go_wp2_with fail
    clear p0 p1 pf HK0
    generalize (w.alloc (.cells #[.slice (some ⟨b, o, none⟩) M c, .int .i64 (n : Int)] 26)).alloc (.cells bcells 26) = W0 at HB0 HK1 HBI HTZ ⊢
    refine (nnot_any _ n _ _ HNN.out HBI.out).mono ?_
    rintro e w3 ⟨v3, rfl, hnb, hb3⟩
    have HN3 := Lib.hid hnb
    have HBI3 := Lib.hid hnb.bits
    have HB3 := Lib.hid (bel_both HB0.out hb3)
    have HT3 := Lib.hid (HTZ.out.below hb3)
    have HS3 := Lib.hid HB0.out.size
    have HK3 := Lib.hid (show w3.heap[w.heap.size + 1]? = some (.cells bcells 26) by rw [hb3.block _ (lt_of_block HK1.out)]; exact HK1.out)
    have HKS3 := Lib.hid (lt_of_block HK1.out)
    clear hnb hb3 HBI HK1 HB0 HTZ
    go_wp2_with fail
    refine (nfirst_any _ n _ _ HNN.out HBI3.out HT3.out).mono ?_
    rintro e w4 ⟨v4, z, rfl, hz, hnb, hb4⟩
    have HZ := Lib.hid hz
    have HN4 := Lib.hid hnb
    have HBI4 := Lib.hid hnb.bits
    have HB4 := Lib.hid (bel_both HB3.out hb4)
    have HT4 := Lib.hid (HT3.out.below hb4)
    have HS4 := Lib.hid HB3.out.size
    have HK4 := Lib.hid (show w4.heap[w.heap.size + 1]? = some (.cells bcells 26) by rw [hb4.block _ (lt_of_block HK3.out)]; exact HK3.out)
    have HKS4 := Lib.hid (lt_of_block HK3.out)
    clear hnb hb4 hz HBI3 HK3 HB3 HT3
    go_wp2_with fail
    refine (nnot_any _ n _ _ HNN.out HBI4.out).mono ?_
    rintro e w5 ⟨v5, rfl, hnb, hb5⟩
    have HN5 := Lib.hid hnb
    have HBI5 := Lib.hid hnb.bits
    have HB5 := Lib.hid (bel_both HB4.out hb5)
    have HT5 := Lib.hid (HT4.out.below hb5)
    have HS5 := Lib.hid HB4.out.size
    have HK5 := Lib.hid (show w5.heap[w.heap.size + 1]? = some (.cells bcells 26) by rw [hb5.block _ (lt_of_block HK4.out)]; exact HK4.out)
    have HKS5 := Lib.hid (lt_of_block HK4.out)
    clear hnb hb5 HBI4 HK4 HB4 HT4
    obtain ⟨g, rfl, hr⟩ := HN5.out
    have hg := hr.low.1
    have hks := HKS5.out
    have HR := Lib.hid (hr.lower HS5.out)
    rw [← HMM.out] at HR
    rw [← HMM.out]
    clear hr
    obtain ⟨hk0, hk1, hkf⟩ := pair_of HK5.out
    go_wp2
    refine bodyPost_ret (v := .tuple #[.agg #[.slice (some ⟨g, 0, none⟩) M M, .int .i64 (n : Int)], .bool true]) (ret_bits2 (fn := Tryz.f66) (p := 4) (u := 5) rfl _ _ (w.heap.size + 1) (by rfl) (set2_block HK5.out _ _)) rfl ⟨.inl ⟨g, fun j => !decide (j = z), by rw [HMM.out], ?_, .inr (.inr (.inr (.inr ⟨rfl, z, HZ.out, rfl⟩)))⟩, below_set2 HB5.out (Nat.le_succ _) _ _⟩
    rw [← HMM.out]
    exact own_set2 HR.out (by show some g ≠ _; intro e; injection e; omega) _ _

set_option maxRecDepth 100000 in
set_option maxHeartbeats 400000 in
theorem srow_other (q : Int) (h5 : q ≠ 5) (h22 : q ≠ 22) (h6 : q ≠ 6) (h3 : q ≠ 3) (h21 : q ≠ 21) (h16 : q ≠ 16) (h11 : q ≠ 11) (h12 : q ≠ 12) (v : Value) (n : Nat) (l : Nat → Bool) (w : World) (hb : BitsIn w v n l) :
    Calls Tryz.prog 66 #[.int .i64 q, v] w (SrOut q l n w) := by
  obtain ⟨b, o, c, rfl, _⟩ := hb
  have n5 : (q == 5) = false := by simpa using h5
  have n22 : (q == 22) = false := by simpa using h22
  have n6 : (q == 6) = false := by simpa using h6
  have n3 : (q == 3) = false := by simpa using h3
  have n21 : (q == 21) = false := by simpa using h21
  have n16 : (q == 16) = false := by simpa using h16
  have n11 : (q == 11) = false := by simpa using h11
  have n12 : (q == 12) = false := by simpa using h12
  have HB0 := Lib.hid (bel2 w (.cells #[.slice (some ⟨b, o, none⟩) ((n + 63) / 64) c, .int .i64 (n : Int)] 26) (.cells bcells 26))
  have HK1 : Hid (((w.alloc (.cells #[.slice (some ⟨b, o, none⟩) ((n + 63) / 64) c, .int .i64 (n : Int)] 26)).alloc (.cells bcells 26)).heap[w.heap.size + 1]? = some (.cells bcells 26)) := by
    have h := heap_alloc_new (w.alloc (.cells #[.slice (some ⟨b, o, none⟩) ((n + 63) / 64) c, .int .i64 (n : Int)] 26)) (.cells bcells 26)
    have hs : (w.alloc (.cells #[.slice (some ⟨b, o, none⟩) ((n + 63) / 64) c, .int .i64 (n : Int)] 26)).heap.size = w.heap.size + 1 := by simp
    rw [hs] at h
    exact h
  clear h5 h22 h6 h3 h21 h16 h11 h12
  go_enter Tryz.func66, Tryz.ntmps66
  obtain ⟨hk0, hk1, hkf⟩ := pair_of HK1.out
  go_wp2
  exact bodyPost_ret (v := .tuple #[.agg #[vnil, .int .i64 0], .bool false]) (ret_bits2 (fn := Tryz.f66) (p := 4) (u := 5) rfl _ _ (w.heap.size + 1) (by rfl) HK1.out) rfl ⟨.inr rfl, HB0.out⟩

theorem srow_any (q : Int) (v : Value) (n : Nat) (l : Nat → Bool) (w : World) (hn : n ≤ 1048576) (hb : BitsIn w v n l) (ht : TzTab w) :
    Calls Tryz.prog 66 #[.int .i64 q, v] w (SrOut q l n w) := by
  by_cases h5 : q = 5 ∨ q = 22
  · exact srow_fill q h5 v n l w hn hb ht
  by_cases h6 : q = 6 ∨ q = 3 ∨ q = 21
  · exact srow_all q h6 v n l w hn hb ht
  by_cases h16 : q = 16
  · exact srow_par q h16 v n l w hn hb ht
  by_cases h11 : q = 11
  · exact srow_first q h11 v n l w hn hb ht
  by_cases h12 : q = 12
  · exact srow_last q h12 v n l w hn hb ht
  · exact srow_other q (by omega) (by omega) (by omega) (by omega) (by omega) h16 h11 h12 v n l w hb
end Go.Proofs.YtdddmehchfnppaaGreatDoor
namespace Go.Proofs.YtdddmehchfnppaaGreatDoor
open Go Go.RowKit Go.Proofs Fl

/-- a row of a table of four, as a word -/
def mT (t i : Nat) : Nat := if t.testBit i then 18446744073709551615 else 0
theorem mT_core : ∀ t : Fin 16, ∀ i : Fin 4, IntKind.u64.wrap (-IntKind.u64.wrap (bits BinOp.and IntKind.u8 ((t.val : Int) / 2 ^ i.val) 1)) = ((mT t.val i.val : Nat) : Int) := by decide +kernel
theorem mT_lt (t i : Nat) : mT t i < 18446744073709551616 := by unfold mT; split <;> decide
theorem ones_bit {m : Nat} (hm : m < 64) : (18446744073709551615 : Nat).testBit m = true := by
  have := not_bit 0 m hm (by decide)
  rw [show 18446744073709551615 - 0 = 18446744073709551615 from rfl] at this
  rw [this]
  simp
theorem mT_bit (t i m : Nat) (hm : m < 64) : (mT t i).testBit m = t.testBit i := by
  unfold mT
  split
  · rename_i h; rw [h]; exact ones_bit hm
  · rename_i h; rw [Nat.zero_testBit]; simpa using h
/-- a word made of two by a table of four -/
def tW (t a b : Nat) : Nat := mT t 0 &&& (18446744073709551615 - a) &&& (18446744073709551615 - b) ||| mT t 1 &&& (18446744073709551615 - a) &&& b ||| mT t 2 &&& a &&& (18446744073709551615 - b) ||| mT t 3 &&& a &&& b
theorem and_lt (x y : Nat) (h : x < 18446744073709551616) : x &&& y < 18446744073709551616 := Nat.lt_of_le_of_lt Nat.and_le_left h
theorem or_lt (x y : Nat) (h : x < 18446744073709551616) (h' : y < 18446744073709551616) : x ||| y < 18446744073709551616 := Nat.or_lt_two_pow (n := 64) h h'
theorem tW_lt (t a b : Nat) : tW t a b < 18446744073709551616 :=
  or_lt _ _ (or_lt _ _ (or_lt _ _ (and_lt _ _ (and_lt _ _ (mT_lt _ _))) (and_lt _ _ (and_lt _ _ (mT_lt _ _)))) (and_lt _ _ (and_lt _ _ (mT_lt _ _)))) (and_lt _ _ (and_lt _ _ (mT_lt _ _)))
theorem tW_bit (t a b m : Nat) (ha : a < 18446744073709551616) (hb : b < 18446744073709551616) (hm : m < 64) : (tW t a b).testBit m = t.testBit (2 * (a.testBit m).toNat + (b.testBit m).toNat) := by
  unfold tW
  simp only [Nat.testBit_or, Nat.testBit_and, mT_bit _ _ _ hm, not_bit a m hm ha, not_bit b m hm hb]
  cases a.testBit m <;> cases b.testBit m <;> simp
theorem tW_run (t a b : Nat) (ha : a < 18446744073709551616) (hb : b < 18446744073709551616) :
    bits .or .u64 (bits .or .u64 (bits .or .u64 (bits .andNot .u64 (bits .andNot .u64 ((mT t 0 : Nat) : Int) (a : Int)) (b : Int)) (bits .and .u64 (bits .andNot .u64 ((mT t 1 : Nat) : Int) (a : Int)) (b : Int))) (bits .andNot .u64 (bits .and .u64 ((mT t 2 : Nat) : Int) (a : Int)) (b : Int))) (bits .and .u64 (bits .and .u64 ((mT t 3 : Nat) : Int) (a : Int)) (b : Int)) = ((tW t a b : Nat) : Int) := by
  have m0 := mT_lt t 0
  have m1 := mT_lt t 1
  have m2 := mT_lt t 2
  have m3 := mT_lt t 3
  rw [u64_andNot_nat _ _ m0 ha, u64_andNot_nat _ _ (and_lt _ _ m0) hb, u64_andNot_nat _ _ m1 ha, u64_and_nat _ _ (and_lt _ _ m1) hb, u64_or_nat _ _ (and_lt _ _ (and_lt _ _ m0)) (and_lt _ _ (and_lt _ _ m1)),
    u64_and_nat _ _ m2 ha, u64_andNot_nat _ _ (and_lt _ _ m2) hb, u64_or_nat _ _ (or_lt _ _ (and_lt _ _ (and_lt _ _ m0)) (and_lt _ _ (and_lt _ _ m1))) (and_lt _ _ (and_lt _ _ m2)),
    u64_and_nat _ _ m3 ha, u64_and_nat _ _ (and_lt _ _ m3) hb, u64_or_nat _ _ (or_lt _ _ (or_lt _ _ (and_lt _ _ (and_lt _ _ m0)) (and_lt _ _ (and_lt _ _ m1))) (and_lt _ _ (and_lt _ _ m2))) (and_lt _ _ (and_lt _ _ m3))]
  rfl

/-- what stands behind 'out := Bits{make(..), n}' in any world -/
def MkMid (w0 : World) (n : Int) (M : Nat) (p : Value) (wx : World) : Prop :=
  ∃ V g, p = .pointer (some ⟨V, 0, none⟩) ∧ RowU wx w0.heap.size g M (fun _ => 0) ∧ Below w0.heap.size w0 wx ∧ wx.heap[V]? = some (.cells #[.slice (some ⟨g, 0, none⟩) M M, .int .i64 n] 26) ∧ V ≠ g ∧ w0.heap.size ≤ V
theorem mkMid_a (w0 : World) (n : Int) (M : Nat) (hM : M ≤ maxLen) : MkMid w0 n M (.pointer (some ⟨w0.heap.size, 0, none⟩)) ((w0.alloc (.cells #[.slice (some ⟨w0.heap.size + 1, 0, none⟩) M M, .int .i64 n] 26)).alloc (.cells (madeCells #[.int .u64 0] M) 124)).drew := by
  have hs : (w0.alloc (.cells #[.slice (some ⟨w0.heap.size + 1, 0, none⟩) M M, .int .i64 n] 26)).heap.size = w0.heap.size + 1 := by simp
  refine ⟨w0.heap.size, w0.heap.size + 1, rfl, ?_, (bel2 w0 _ _).drew, ?_, by omega, Nat.le_refl _⟩
  · have h := RowU.made (w0.alloc (.cells #[.slice (some ⟨w0.heap.size + 1, 0, none⟩) M M, .int .i64 n] 26)) w0.heap.size (by rw [hs]; omega) M hM
    rw [hs] at h
    exact h
  · exact block_up ((bel1 (w0.alloc (.cells #[.slice (some ⟨w0.heap.size + 1, 0, none⟩) M M, .int .i64 n] 26)) (.cells (madeCells #[.int .u64 0] M) 124)).drew)
theorem mkMid_b (w0 : World) (n : Int) (M : Nat) (hM : M ≤ maxLen) : MkMid w0 n M (.pointer (some ⟨w0.heap.size + 1, 0, none⟩)) ((w0.alloc (.cells (madeCells #[.int .u64 0] M) 124)).alloc (.cells #[.slice (some ⟨w0.heap.size, 0, none⟩) M M, .int .i64 n] 26)).drew := by
  have hs : (w0.alloc (.cells (madeCells #[.int .u64 0] M) 124)).heap.size = w0.heap.size + 1 := by simp
  refine ⟨w0.heap.size + 1, w0.heap.size, rfl, ?_, (bel2 w0 _ _).drew, ?_, by omega, by omega⟩
  · exact (RowU.made w0 w0.heap.size (Nat.le_refl _) M hM).below ((bel1 _ (.cells #[.slice (some ⟨w0.heap.size, 0, none⟩) M M, .int .i64 n] 26)).drew)
  · have h := heap_alloc_new (w0.alloc (.cells (madeCells #[.int .u64 0] M) 124)) (.cells #[.slice (some ⟨w0.heap.size, 0, none⟩) M M, .int .i64 n] 26)
    rw [hs] at h
    exact h

/-- the table's cells -/
abbrev tabC (t i : Nat) : Array Value := #[.int .u64 (if 0 < i then mT t 0 else 0 : Nat), .int .u64 (if 1 < i then mT t 1 else 0 : Nat), .int .u64 (if 2 < i then mT t 2 else 0 : Nat), .int .u64 (if 3 < i then mT t 3 else 0 : Nat)]
theorem tab_put {w : World} {G : Nat} {e : TypeId} {t i : Nat} (hi : i < 4) (h : w.heap[G]? = some (.cells (tabC t i) e)) : (w.setCell ⟨G, i, none⟩ (.int .u64 (mT t i : Nat))).heap[G]? = some (.cells (tabC t (i + 1)) e) := by
  have h0 := heap_setCell_same _ G i _ e (.int .u64 (mT t i : Nat)) h
  rw [h0]
  match i, hi with
  | 0, _ => simp [tabC]
  | 1, _ => simp [tabC]
  | 2, _ => simp [tabC]
  | 3, _ => simp [tabC]
theorem tab_cell {w : World} {G : Nat} {e : TypeId} {t i : Nat} (h : w.heap[G]? = some (.cells (tabC t i) e)) (j : Nat) (hj : j < 4) : w.cell? ⟨G, j, none⟩ = some (.int .u64 (if j < i then mT t j else 0 : Nat)) ∧ w.frozen? ⟨G, j, none⟩ = false := by
  refine ⟨?_, frozen_of_row _ _ j _ e h⟩
  rw [cell_of_row _ G j _ e (0, 0) h]
  match j, hj with
  | 0, _ => rfl
  | 1, _ => rfl
  | 2, _ => rfl
  | 3, _ => rfl

/-- the boxes and the result's cells, with the table -/
structure TrS (w W : World) (o1 o2 : Obj) (t i : Nat) : Prop where
  one : W.heap[w.heap.size]? = some o1
  two : W.heap[w.heap.size + 1]? = some o2
  res : W.heap[w.heap.size + 2]? = some (.cells bcells 26)
  tab : W.heap[w.heap.size + 3]? = some (.cells (tabC t i) 138)
  bel : Below w.heap.size w W
theorem TrS.sz {w W : World} {o1 o2 : Obj} {t i : Nat} (h : TrS w W o1 o2 t i) : w.heap.size + 4 ≤ W.heap.size := lt_of_block h.tab
theorem TrS.step {w W W' : World} {o1 o2 : Obj} {t i : Nat} (h : TrS w W o1 o2 t i) (hb : Below (w.heap.size + 4) W W') : TrS w W' o1 o2 t i :=
  ⟨by rw [hb.block _ (by omega)]; exact h.one, by rw [hb.block _ (by omega)]; exact h.two, by rw [hb.block _ (by omega)]; exact h.res, by rw [hb.block _ (by omega)]; exact h.tab, h.bel.trans (hb.mono (by omega))⟩
theorem TrS.new (w : World) (o1 o2 : Obj) (t : Nat) : TrS w ((((w.alloc o1).alloc o2).alloc (.cells bcells 26)).alloc (.cells #[.int .u64 0, .int .u64 0, .int .u64 0, .int .u64 0] 138)) o1 o2 t 0 := by
  have s1 : (w.alloc o1).heap.size = w.heap.size + 1 := by simp
  have s2 : ((w.alloc o1).alloc o2).heap.size = w.heap.size + 2 := by simp
  have s3 : (((w.alloc o1).alloc o2).alloc (.cells bcells 26)).heap.size = w.heap.size + 3 := by simp
  refine ⟨block_up (bel3 (w.alloc o1) _ _ _), ?_, ?_, ?_, bel_both (bel3 w _ _ _) (bel1 _ _)⟩
  · have h := block_up (bel2 ((w.alloc o1).alloc o2) (.cells bcells 26) (.cells #[.int .u64 0, .int .u64 0, .int .u64 0, .int .u64 0] 138))
    rw [s1] at h
    exact h
  · have h := block_up (bel1 (((w.alloc o1).alloc o2).alloc (.cells bcells 26)) (.cells #[.int .u64 0, .int .u64 0, .int .u64 0, .int .u64 0] 138))
    rw [s2] at h
    exact h
  · have h := heap_alloc_new (((w.alloc o1).alloc o2).alloc (.cells bcells 26)) (.cells #[.int .u64 0, .int .u64 0, .int .u64 0, .int .u64 0] 138)
    rw [s3] at h
    exact h

set_option maxRecDepth 100000 in
set_option maxHeartbeats 2000000 in
theorem btruth_any (t : Nat) (ht : t < 16) (b1 o1 c1 b2 o2 c2 n : Nat) (l1 l2 : Nat → Bool) (w : World) (hn : n ≤ 1048576)
    (hc1 : ∀ j, j < (n + 63) / 64 → w.cell? ⟨b1, o1 + j, none⟩ = some (.int .u64 (packW l1 n j : Nat))) (hc2 : ∀ j, j < (n + 63) / 64 → w.cell? ⟨b2, o2 + j, none⟩ = some (.int .u64 (packW l2 n j : Nat))) :
    Calls Tryz.prog 97 #[.int .u8 (t : Int), .agg #[.slice (some ⟨b1, o1, none⟩) ((n + 63) / 64) c1, .int .i64 (n : Int)], .agg #[.slice (some ⟨b2, o2, none⟩) ((n + 63) / 64) c2, .int .i64 (n : Int)]] w fun e w' => ∃ g, e = .returned (.tuple #[.agg #[.slice (some ⟨g, 0, none⟩) ((n + 63) / 64) ((n + 63) / 64), .int .i64 (n : Int)], .bool true]) ∧ RowU w' w.heap.size g ((n + 63) / 64) (packW (fun i => t.testBit (2 * (l1 i).toNat + (l2 i).toNat)) n) ∧ Below w.heap.size w w' := by
  obtain ⟨M, hM⟩ : ∃ M, M = (n + 63) / 64 := ⟨_, rfl⟩
  rw [← hM] at hc1 hc2 ⊢
  have HC1 := Lib.hid hc1
  have HC2 := Lib.hid hc2
  have HM := Lib.hid hM
  have hMb : M ≤ 16384 := by omega
  have hmk := run_make_row' (P := Tryz.prog) 24 124 (.int .u64 0) 8 Tryz.underlying24 info_u64 rfl .i64 .i64 M (by omega) (by omega)
  have HT0 := Lib.hid (TrS.new w (.cells #[.slice (some ⟨b1, o1, none⟩) M c1, .int .i64 (n : Int)] 26) (.cells #[.slice (some ⟨b2, o2, none⟩) M c2, .int .i64 (n : Int)] 26) t)
  clear hc1 hc2 hM
  obtain ⟨X1, hX1⟩ : ∃ X : Obj, X = .cells #[.slice (some ⟨b1, o1, none⟩) M c1, .int .i64 (n : Int)] 26 := ⟨_, rfl⟩
  obtain ⟨X2, hX2⟩ : ∃ X : Obj, X = .cells #[.slice (some ⟨b2, o2, none⟩) M c2, .int .i64 (n : Int)] 26 := ⟨_, rfl⟩
  have HX1 := Lib.hid hX1
  have HX2 := Lib.hid hX2
  have HT0' : Hid (TrS w ((((w.alloc (.cells #[.slice (some ⟨b1, o1, none⟩) M c1, .int .i64 (n : Int)] 26)).alloc (.cells #[.slice (some ⟨b2, o2, none⟩) M c2, .int .i64 (n : Int)] 26)).alloc (.cells bcells 26)).alloc (.cells #[.int .u64 0, .int .u64 0, .int .u64 0, .int .u64 0] 138)) X1 X2 t 0) := by
    show TrS _ _ _ _ _ _
    rw [hX1, hX2]
    exact HT0.out
  clear hX1 hX2 HT0
  go_enter Tryz.func97, Tryz.ntmps97
  go_wp2_with fail
  go_loopw [20] (fun ii wr => ∃ i : Nat, i ≤ 4 ∧ ii = .int .i64 i ∧ TrS w wr X1 X2 t i) (fun ii _ => 4 - (intOf ii).toNat)
  case atStart => exact ⟨0, Nat.zero_le _, rfl, HT0'.out⟩
  case round =>
    clear HT0'
    obtain ⟨i, hi, rfl, hts⟩ := hrel
    have HTS := Lib.hid hts
    clear hts
    by_cases hlt : i < 4
    · obtain ⟨hcell, hf⟩ := tab_cell HTS.out.tab i hlt
      have hlt2 : (i : Int) < 4 := by omega
      have HMC : Hid (IntKind.u64.wrap (-IntKind.u64.wrap (bits BinOp.and IntKind.u8 ((t : Int) / 2 ^ i) 1)) = ((mT t i : Nat) : Int)) := mT_core ⟨t, ht⟩ ⟨i, hlt⟩
      have HNEW : Hid (TrS w (wr.setCell ⟨w.heap.size + 3, i, none⟩ (.int .u64 (mT t i : Nat))) X1 X2 t (i + 1)) :=
        ⟨by rw [Below.heap_setCell _ _ _ _ (by show _ ≠ w.heap.size + 3; omega)]; exact HTS.out.one, by rw [Below.heap_setCell _ _ _ _ (by show _ ≠ w.heap.size + 3; omega)]; exact HTS.out.two, by rw [Below.heap_setCell _ _ _ _ (by show _ ≠ w.heap.size + 3; omega)]; exact HTS.out.res, tab_put hlt HTS.out.tab, HTS.out.bel.setCell (by show _ ≤ w.heap.size + 3; omega) _⟩
      go_wp2
      rw [HMC.out]
      exact ⟨⟨i + 1, by omega, by go_num, HNEW.out⟩, by simp [intOf]; omega⟩
    · obtain rfl : i = 4 := by omega
      have HTS0 := HTS
      obtain ⟨hx0, hx1, _⟩ := pair_of (by have := HTS.out.one; rw [HX1.out] at this; exact this)
      obtain ⟨hy0, hy1, _⟩ := pair_of (by have := HTS.out.two; rw [HX2.out] at this; exact this)
      have HMA := Lib.hid (mkMid_a wr (n : Int) M (by unfold maxLen; omega))
      have HMB := Lib.hid (mkMid_b wr (n : Int) M (by unfold maxLen; omega))
      go_wp2_with fail
      obtain ⟨B, hB⟩ : ∃ B, B = wr.heap.size := ⟨_, rfl⟩
      have hBw : w.heap.size + 4 ≤ B := by rw [hB]; exact HTS.out.sz
      go_cut [10] from 33 (fun p wx => MkMid wr (n : Int) M p wx)
      case first =>
        have z0 : w.heap.size < wr.heap.size := by have := HTS.out.sz; omega
        have hx0a := fun o => cell_box1 hx0 o
        have hx1a := fun o => cell_box1 hx1 o
        go_region
        all_goals
          go_wp2
          go_meet
          first | exact HMA.out | exact HMB.out
      obtain ⟨V, g, rfl, hr0, hb0, hkV, hVg, hV⟩ := hcut
      have hg2 := hr0.low.1
      rw [← hB] at hr0 hV hg2
      have HR0 := Lib.hid hr0
      have HT1 := Lib.hid (HTS.out.step (hb0.mono HTS.out.sz))
      have HKV := Lib.hid hkV
      clear hr0 hb0 hkV hmk HMA HMB HTS HTS0 hB hx0 hx1 hy0 hy1
      obtain ⟨hv0, hv1, _⟩ := pair_of HKV.out
      go_wp2_with fail
      go_loopw [43] (fun ii wr => ∃ i : Nat, i ≤ M ∧ ii = .int .i64 i ∧ RowU wr B g M (fun j => if j < i then tW t (packW l1 n j) (packW l2 n j) else 0) ∧ TrS w wr X1 X2 t 4 ∧ wr.heap[V]? = some (.cells #[.slice (some ⟨g, 0, none⟩) M M, .int .i64 (n : Int)] 26)) (fun ii _ => M - (intOf ii).toNat)
      case atStart => exact ⟨0, Nat.zero_le _, rfl, HR0.out.same (fun j _ => by rw [if_neg (Nat.not_lt_zero _)]), HT1.out, HKV.out⟩
      case round =>
        clear HR0 HT1 HKV hv0 hv1
        obtain ⟨i, hi, rfl, hrow, hts, hkv⟩ := hrel
        have HROW := Lib.hid hrow
        have HTS := Lib.hid hts
        have HKV := Lib.hid hkv
        clear hrow hts hkv
        by_cases hlt : i < M
        · obtain ⟨hx0, hx1, _⟩ := pair_of (by have := HTS.out.one; rw [HX1.out] at this; exact this)
          obtain ⟨hy0, hy1, _⟩ := pair_of (by have := HTS.out.two; rw [HX2.out] at this; exact this)
          have hca : wr.cell? ⟨b1, o1 + i, none⟩ = some (.int .u64 (packW l1 n i : Nat)) := by rw [HTS.out.bel.cell (cell_lt (HC1.out i hlt))]; exact HC1.out i hlt
          have hcb : wr.cell? ⟨b2, o2 + i, none⟩ = some (.int .u64 (packW l2 n i : Nat)) := by rw [HTS.out.bel.cell (cell_lt (HC2.out i hlt))]; exact HC2.out i hlt
          have HRUN := Lib.hid (tW_run t (packW l1 n i) (packW l2 n i) (packW_lt l1 n i) (packW_lt l2 n i))
          have HPUT := Lib.hid (fun W (hr : RowU W B g M (fun j => if j < i then tW t (packW l1 n j) (packW l2 n j) else 0)) => hr.put hlt (tW t (packW l1 n i) (packW l2 n i)) (F' := fun j => if j < i + 1 then tW t (packW l1 n j) (packW l2 n j) else 0) (fun j _ => by
            by_cases e : j = i
            · rw [if_pos e, if_pos (by omega), e]
            · rw [if_neg e]
              by_cases h2 : j < i
              · rw [if_pos h2, if_pos (by omega)]
              · rw [if_neg h2, if_neg (by omega)]))
          generalize packW l1 n i = a at *
          generalize packW l2 n i = b at *
          go_wp2_with fail
          go_cut [12, 13] from 46 to 87 (fun x y wx => x = .int .u64 (a : Int) ∧ y = .int .u64 (b : Int) ∧ Below wr.heap.size wr wx)
          case first =>
            go_quiet (fail)
            go_wp2
            go_meet
            exact ⟨rfl, rfl, drewN1' (Below.refl _ _) _⟩
          case rest =>
            obtain ⟨rfl, rfl, hbc⟩ := hcut
            have HROWC := Lib.hid (HROW.out.below hbc)
            have HTSC := Lib.hid (HTS.out.step (hbc.mono HTS.out.sz))
            have HKVC := Lib.hid (show wc.heap[V]? = some (.cells #[.slice (some ⟨g, 0, none⟩) M M, .int .i64 (n : Int)] 26) by rw [hbc.block _ (lt_of_block HKV.out)]; exact HKV.out)
            have HP2 := Lib.hid (HPUT.out wc HROWC.out)
            clear hbc hx0 hx1 hy0 hy1 hca hcb HROW HTS HKV HPUT
            obtain ⟨hv0, hv1, hvf⟩ := pair_of HKVC.out
            have hcw := HROWC.out.cell hlt
            have hfw := HROWC.out.frozen i
            have t0 : wc.cell? ⟨w.heap.size + 3, 0, none⟩ = some (.int .u64 ((mT t 0 : Nat) : Int)) := (tab_cell HTSC.out.tab 0 (by decide)).1
            have t1 : wc.cell? ⟨w.heap.size + 3, 1, none⟩ = some (.int .u64 ((mT t 1 : Nat) : Int)) := (tab_cell HTSC.out.tab 1 (by decide)).1
            have t2 : wc.cell? ⟨w.heap.size + 3, 2, none⟩ = some (.int .u64 ((mT t 2 : Nat) : Int)) := (tab_cell HTSC.out.tab 2 (by decide)).1
            have t3 : wc.cell? ⟨w.heap.size + 3, 3, none⟩ = some (.int .u64 ((mT t 3 : Nat) : Int)) := (tab_cell HTSC.out.tab 3 (by decide)).1
            have HT2 : Hid (TrS w (wc.setCell ⟨g, i, none⟩ (.int .u64 (tW t a b : Nat))) X1 X2 t 4) := HTSC.out.step ((Below.refl _ wc).setCell (by show _ ≤ g; omega) _)
            have HK2 := Lib.hid ((Below.heap_setCell wc ⟨g, i, none⟩ (.int .u64 (tW t a b : Nat)) V (by show _ ≠ g; exact hVg)).trans HKVC.out)
            go_wp2
            rw [HRUN.out]
            exact ⟨⟨i + 1, by omega, by go_num, HP2.out, HT2.out, HK2.out⟩, by simp [intOf]; omega⟩
        · obtain rfl : i = M := by omega
          have HT := Lib.hid (trim_any B g n i _ wr hn HM.out HROW.out (fun j hj => by
            show (if j < i then _ else _) < _
            rw [if_pos hj]
            exact tW_lt _ _ _))
          have HF : Hid (∀ j, j < i → trimF n i (fun j => if j < i then tW t (packW l1 n j) (packW l2 n j) else 0) j = packW (fun i => t.testBit (2 * (l1 i).toNat + (l2 i).toNat)) n j) := by
            refine trimF_pack n i _ _ HM.out (fun j hj => ?_) (fun j hj m hm hin => ?_)
            · show (if j < i then _ else _) < _
              rw [if_pos hj]
              exact tW_lt _ _ _
            · show Nat.testBit (if j < i then _ else _) m = _
              rw [if_pos hj, tW_bit t _ _ m (packW_lt l1 n j) (packW_lt l2 n j) hm, packW_bit l1 n j m hm, packW_bit l2 n j m hm]
              simp [hin]
          obtain ⟨hv0, hv1, hvf⟩ := pair_of HKV.out
          go_wp2_with fail
          refine HT.out.mono ?_
          rintro e w5 ⟨rfl, hr5, hb5, ho5⟩
          have HR5 := Lib.hid (hr5.same (F' := packW (fun i => t.testBit (2 * (l1 i).toNat + (l2 i).toNat)) n) (fun j hj => (HF.out j hj).symm))
          have HT5 := Lib.hid (HTS.out.step (hb5.mono hBw))
          have hVl : V < wr.heap.size := lt_of_block HKV.out
          have HKV5 := Lib.hid (show w5.heap[V]? = some (.cells #[.slice (some ⟨g, 0, none⟩) i i, .int .i64 (n : Int)] 26) by rw [ho5 V hVl hVg]; exact HKV.out)
          clear hr5 hb5 ho5 hv0 hv1 hvf
          obtain ⟨hv0, hv1, hvf⟩ := pair_of HKV5.out
          obtain ⟨hk0, hk1, hkf⟩ := pair_of HT5.out.res
          go_wp2
          refine bodyPost_ret (v := .tuple #[.agg #[.slice (some ⟨g, 0, none⟩) i i, .int .i64 (n : Int)], .bool true]) ?_ rfl ⟨g, rfl, ?_, below_set2 HT5.out.bel (by omega) _ _⟩
          · exact ret_bits2 (fn := Tryz.f97) (p := 6) (u := 7) rfl _ _ (w.heap.size + 2) (by rfl) (set2_block HT5.out.res _ _)
          · exact own_set2 (HR5.out.lower (by omega)) (by show some g ≠ _; intro e; injection e; omega) _ _
end Go.Proofs.YtdddmehchfnppaaGreatDoor
