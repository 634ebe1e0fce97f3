/- The walk of scan.row. Conditions: the table of math/bits reads as its text lays it. -/
import Derived.Test.YtdddmehchfnppaaGreatDoorMg30
namespace Go.Proofs.YtdddmehchfnppaaGreatDoor
open Go Go.RowKit Go.Proofs Fl

/-- packed truths that the call made -/
def NewBits (w : World) (n : Nat) (l : Nat → Bool) (v : Value) (w' : World) : Prop :=
  ∃ g, v = .agg #[.slice (some ⟨g, 0, none⟩) ((n + 63) / 64) ((n + 63) / 64), .int .i64 (n : Int)] ∧ RowU w' w.heap.size g ((n + 63) / 64) (packW l n)
theorem NewBits.bits {w w' : World} {n : Nat} {l : Nat → Bool} {v : Value} (h : NewBits w n l v w') : BitsIn w' v n l := by
  obtain ⟨g, rfl, hr⟩ := h
  exact .of_row hr
theorem nnot_any (v : Value) (n : Nat) (l : Nat → Bool) (w : World) (hn : n ≤ 1048576) (hb : BitsIn w v n l) :
    Calls Tryz.prog 109 #[v] w fun e w' => ∃ v', e = .returned v' ∧ NewBits w n (fun i => !l i) v' w' ∧ Below w.heap.size w w' := by
  obtain ⟨b, o, c, rfl, hc⟩ := hb
  refine (not_any b o c n l w hn hc).mono ?_
  rintro e w1 ⟨g, rfl, hr, hb⟩
  exact ⟨_, rfl, ⟨g, rfl, hr⟩, hb⟩
theorem nparity_any (v : Value) (n : Nat) (l : Nat → Bool) (w : World) (hn : n ≤ 1048576) (hb : BitsIn w v n l) :
    Calls Tryz.prog 110 #[v] w fun e w' => ∃ v', e = .returned v' ∧ NewBits w n (fun i => Go.Proofs.YtdddmehchfnppaaGreatDoor.pre l (i + 1)) v' w' ∧ Below w.heap.size w w' := by
  obtain ⟨b, o, c, rfl, hc⟩ := hb
  refine (parity_any b o c n l w hn hc).mono ?_
  rintro e w1 ⟨g, rfl, hr, hb⟩
  exact ⟨_, rfl, ⟨g, rfl, hr⟩, hb⟩
theorem nfill_any (v : Value) (n : Nat) (l : Nat → Bool) (w : World) (hn : n ≤ 1048576) (hb : BitsIn w v n l) (ht : TzTab w) :
    Calls Tryz.prog 108 #[v] w fun e w' => ∃ v' z, e = .returned v' ∧ FirstIs l n z ∧ NewBits w n (fromZ z) v' w' ∧ Below w.heap.size w w' := by
  refine (fill_any v n l w hn hb ht).mono ?_
  rintro e w1 ⟨z, g, hz, rfl, hr, hb⟩
  exact ⟨_, z, rfl, hz, ⟨g, rfl, hr⟩, hb⟩
theorem nfirst_any (v : Value) (n : Nat) (l : Nat → Bool) (w : World) (hn : n ≤ 1048576) (hb : BitsIn w v n l) (ht : TzTab w) :
    Calls Tryz.prog 111 #[v] w fun e w' => ∃ v' z, e = .returned v' ∧ FirstIs l n z ∧ NewBits w n (fun j => decide (j = z)) v' w' ∧ Below w.heap.size w w' := by
  refine (sfirst_any v n l w hn hb ht).mono ?_
  rintro e w1 ⟨z, g, hz, rfl, hr, hb⟩
  exact ⟨_, z, rfl, hz, ⟨g, rfl, hr⟩, hb⟩

/-- what a row of truths is scanned to -/
def SrL (q : Int) (l : Nat → Bool) (n : Nat) (L : Nat → Bool) : Prop :=
  ((q = 5 ∨ q = 22) ∧ ∃ z, FirstIs l n z ∧ L = fromZ z) ∨ ((q = 6 ∨ q = 3 ∨ q = 21) ∧ ∃ z, FirstIs (fun i => !l i) n z ∧ L = fun j => !fromZ z j) ∨
  (q = 16 ∧ L = fun j => Go.Proofs.YtdddmehchfnppaaGreatDoor.pre l (j + 1)) ∨ (q = 11 ∧ ∃ z, FirstIs l n z ∧ L = fun j => decide (j = z)) ∨ (q = 12 ∧ ∃ z, FirstIs (fun i => !l i) n z ∧ L = fun j => !decide (j = z))
/-- what row tells -/
def SrOut (q : Int) (l : Nat → Bool) (n : Nat) (w : World) (e : Ending) (w' : World) : Prop :=
  ((∃ g L, e = .returned (.tuple #[.agg #[.slice (some ⟨g, 0, none⟩) ((n + 63) / 64) ((n + 63) / 64), .int .i64 (n : Int)], .bool true]) ∧ RowU w' w.heap.size g ((n + 63) / 64) (packW L n) ∧ SrL q l n L) ∨
  e = .returned (.tuple #[.agg #[vnil, .int .i64 0], .bool false])) ∧ Below w.heap.size w w'

set_option maxRecDepth 100000 in
set_option maxHeartbeats 400000 in
theorem srow_fill (q : Int) (hq : q = 5 ∨ q = 22) (v : Value) (n : Nat) (l : Nat → Bool) (w : World) (hn : n ≤ 1048576) (hb : BitsIn w v n l) (ht : TzTab w) :
    Calls Tryz.prog 66 #[.int .i64 q, v] w (SrOut q l n w) := by
  have hbin := hb
  obtain ⟨b, o, c, rfl, _⟩ := hb
  obtain ⟨M, hM⟩ : ∃ M, M = (n + 63) / 64 := ⟨_, rfl⟩
  have HB0 := Lib.hid (bel2 w (.cells #[.slice (some ⟨b, o, none⟩) M c, .int .i64 (n : Int)] 26) (.cells bcells 26))
  have HK0 := Lib.hid (block_up (bel1 (w.alloc (.cells #[.slice (some ⟨b, o, none⟩) M c, .int .i64 (n : Int)] 26)) (.cells bcells 26)))
  have HK1 : Hid (((w.alloc (.cells #[.slice (some ⟨b, o, none⟩) M c, .int .i64 (n : Int)] 26)).alloc (.cells bcells 26)).heap[w.heap.size + 1]? = some (.cells bcells 26)) := by
    have h := heap_alloc_new (w.alloc (.cells #[.slice (some ⟨b, o, none⟩) M c, .int .i64 (n : Int)] 26)) (.cells bcells 26)
    have hs : (w.alloc (.cells #[.slice (some ⟨b, o, none⟩) M c, .int .i64 (n : Int)] 26)).heap.size = w.heap.size + 1 := by simp
    rw [hs] at h
    exact h
  have HBI := Lib.hid (hbin.below HB0.out)
  have HTZ := Lib.hid (ht.below HB0.out)
  have HNN := Lib.hid hn
  rw [← hM] at HBI ⊢
  have HMM := Lib.hid hM
  clear hbin ht hn hM
  rcases hq with rfl | rfl
  all_goals
    go_enter Tryz.func66, Tryz.ntmps66
    obtain ⟨p0, p1, pf⟩ := pair_of HK0.out
    go_wp2_with fail
    clear p0 p1 pf HK0
    generalize (w.alloc (.cells #[.slice (some ⟨b, o, none⟩) M c, .int .i64 (n : Int)] 26)).alloc (.cells bcells 26) = W0 at HB0 HK1 HBI HTZ ⊢
    refine (nfill_any _ n _ _ HNN.out HBI.out HTZ.out).mono ?_
    rintro e w3 ⟨v3, z, rfl, hz, hnb, hb3⟩
    have HZ := Lib.hid hz
    have HN3 := Lib.hid hnb
    have HBI3 := Lib.hid hnb.bits
    have HB3 := Lib.hid (bel_both HB0.out hb3)
    have HT3 := Lib.hid (HTZ.out.below hb3)
    have HS3 := Lib.hid HB0.out.size
    have HK3 := Lib.hid (show w3.heap[w.heap.size + 1]? = some (.cells bcells 26) by rw [hb3.block _ (lt_of_block HK1.out)]; exact HK1.out)
    have HKS3 := Lib.hid (lt_of_block HK1.out)
    clear hnb hb3 hz HBI HK1 HB0 HTZ
    obtain ⟨g, rfl, hr⟩ := HN3.out
    have hg := hr.low.1
    have hks := HKS3.out
    have HR := Lib.hid (hr.lower HS3.out)
    rw [← HMM.out] at HR
    rw [← HMM.out]
    clear hr
    obtain ⟨hk0, hk1, hkf⟩ := pair_of HK3.out
    go_wp2
    refine bodyPost_ret (v := .tuple #[.agg #[.slice (some ⟨g, 0, none⟩) M M, .int .i64 (n : Int)], .bool true]) (ret_bits2 (fn := Tryz.f66) (p := 4) (u := 5) rfl _ _ (w.heap.size + 1) (by rfl) (set2_block HK3.out _ _)) rfl ⟨.inl ⟨g, fromZ z, by rw [HMM.out], ?_, .inl ⟨by decide, z, HZ.out, rfl⟩⟩, below_set2 HB3.out (Nat.le_succ _) _ _⟩
    rw [← HMM.out]
    exact own_set2 HR.out (by show some g ≠ _; intro e; injection e; omega) _ _

set_option maxRecDepth 100000 in
set_option maxHeartbeats 400000 in
theorem srow_all (q : Int) (hq : q = 6 ∨ q = 3 ∨ q = 21) (v : Value) (n : Nat) (l : Nat → Bool) (w : World) (hn : n ≤ 1048576) (hb : BitsIn w v n l) (ht : TzTab w) :
    Calls Tryz.prog 66 #[.int .i64 q, v] w (SrOut q l n w) := by
  have hbin := hb
  obtain ⟨b, o, c, rfl, _⟩ := hb
  obtain ⟨M, hM⟩ : ∃ M, M = (n + 63) / 64 := ⟨_, rfl⟩
  have HB0 := Lib.hid (bel2 w (.cells #[.slice (some ⟨b, o, none⟩) M c, .int .i64 (n : Int)] 26) (.cells bcells 26))
  have HK0 := Lib.hid (block_up (bel1 (w.alloc (.cells #[.slice (some ⟨b, o, none⟩) M c, .int .i64 (n : Int)] 26)) (.cells bcells 26)))
  have HK1 : Hid (((w.alloc (.cells #[.slice (some ⟨b, o, none⟩) M c, .int .i64 (n : Int)] 26)).alloc (.cells bcells 26)).heap[w.heap.size + 1]? = some (.cells bcells 26)) := by
    have h := heap_alloc_new (w.alloc (.cells #[.slice (some ⟨b, o, none⟩) M c, .int .i64 (n : Int)] 26)) (.cells bcells 26)
    have hs : (w.alloc (.cells #[.slice (some ⟨b, o, none⟩) M c, .int .i64 (n : Int)] 26)).heap.size = w.heap.size + 1 := by simp
    rw [hs] at h
    exact h
  have HBI := Lib.hid (hbin.below HB0.out)
  have HTZ := Lib.hid (ht.below HB0.out)
  have HNN := Lib.hid hn
  rw [← hM] at HBI ⊢
  have HMM := Lib.hid hM
  clear hbin ht hn hM
  rcases hq with rfl | rfl | rfl
  all_goals
    go_enter Tryz.func66, Tryz.ntmps66
    obtain ⟨p0, p1, pf⟩ := pair_of HK0.out
    go_wp2_with fail
    clear p0 p1 pf HK0
    generalize (w.alloc (.cells #[.slice (some ⟨b, o, none⟩) M c, .int .i64 (n : Int)] 26)).alloc (.cells bcells 26) = W0 at HB0 HK1 HBI HTZ ⊢
    refine (nnot_any _ n _ _ HNN.out HBI.out).mono ?_
    rintro e w3 ⟨v3, rfl, hnb, hb3⟩
    have HN3 := Lib.hid hnb
    have HBI3 := Lib.hid hnb.bits
    have HB3 := Lib.hid (bel_both HB0.out hb3)
    have HT3 := Lib.hid (HTZ.out.below hb3)
    have HS3 := Lib.hid HB0.out.size
    have HK3 := Lib.hid (show w3.heap[w.heap.size + 1]? = some (.cells bcells 26) by rw [hb3.block _ (lt_of_block HK1.out)]; exact HK1.out)
    have HKS3 := Lib.hid (lt_of_block HK1.out)
    clear hnb hb3 HBI HK1 HB0 HTZ
    go_wp2_with fail
    refine (nfill_any _ n _ _ HNN.out HBI3.out HT3.out).mono ?_
    rintro e w4 ⟨v4, z, rfl, hz, hnb, hb4⟩
    have HZ := Lib.hid hz
    have HN4 := Lib.hid hnb
    have HBI4 := Lib.hid hnb.bits
    have HB4 := Lib.hid (bel_both HB3.out hb4)
    have HT4 := Lib.hid (HT3.out.below hb4)
    have HS4 := Lib.hid HB3.out.size
    have HK4 := Lib.hid (show w4.heap[w.heap.size + 1]? = some (.cells bcells 26) by rw [hb4.block _ (lt_of_block HK3.out)]; exact HK3.out)
    have HKS4 := Lib.hid (lt_of_block HK3.out)
    clear hnb hb4 hz HBI3 HK3 HB3 HT3
    go_wp2_with fail
    refine (nnot_any _ n _ _ HNN.out HBI4.out).mono ?_
    rintro e w5 ⟨v5, rfl, hnb, hb5⟩
    have HN5 := Lib.hid hnb
    have HBI5 := Lib.hid hnb.bits
    have HB5 := Lib.hid (bel_both HB4.out hb5)
    have HT5 := Lib.hid (HT4.out.below hb5)
    have HS5 := Lib.hid HB4.out.size
    have HK5 := Lib.hid (show w5.heap[w.heap.size + 1]? = some (.cells bcells 26) by rw [hb5.block _ (lt_of_block HK4.out)]; exact HK4.out)
    have HKS5 := Lib.hid (lt_of_block HK4.out)
    clear hnb hb5 HBI4 HK4 HB4 HT4
    obtain ⟨g, rfl, hr⟩ := HN5.out
    have hg := hr.low.1
    have hks := HKS5.out
    have HR := Lib.hid (hr.lower HS5.out)
    rw [← HMM.out] at HR
    rw [← HMM.out]
    clear hr
    obtain ⟨hk0, hk1, hkf⟩ := pair_of HK5.out
    go_wp2
    refine bodyPost_ret (v := .tuple #[.agg #[.slice (some ⟨g, 0, none⟩) M M, .int .i64 (n : Int)], .bool true]) (ret_bits2 (fn := Tryz.f66) (p := 4) (u := 5) rfl _ _ (w.heap.size + 1) (by rfl) (set2_block HK5.out _ _)) rfl ⟨.inl ⟨g, fun j => !fromZ z j, by rw [HMM.out], ?_, .inr (.inl ⟨by decide, z, HZ.out, rfl⟩)⟩, below_set2 HB5.out (Nat.le_succ _) _ _⟩
    rw [← HMM.out]
    exact own_set2 HR.out (by show some g ≠ _; intro e; injection e; omega) _ _

set_option maxRecDepth 100000 in
set_option maxHeartbeats 400000 in
theorem srow_par (q : Int) (hq : q = 16) (v : Value) (n : Nat) (l : Nat → Bool) (w : World) (hn : n ≤ 1048576) (hb : BitsIn w v n l) (ht : TzTab w) :
    Calls Tryz.prog 66 #[.int .i64 q, v] w (SrOut q l n w) := by
  have hbin := hb
  obtain ⟨b, o, c, rfl, _⟩ := hb
  obtain ⟨M, hM⟩ : ∃ M, M = (n + 63) / 64 := ⟨_, rfl⟩
  have HB0 := Lib.hid (bel2 w (.cells #[.slice (some ⟨b, o, none⟩) M c, .int .i64 (n : Int)] 26) (.cells bcells 26))
  have HK0 := Lib.hid (block_up (bel1 (w.alloc (.cells #[.slice (some ⟨b, o, none⟩) M c, .int .i64 (n : Int)] 26)) (.cells bcells 26)))
  have HK1 : Hid (((w.alloc (.cells #[.slice (some ⟨b, o, none⟩) M c, .int .i64 (n : Int)] 26)).alloc (.cells bcells 26)).heap[w.heap.size + 1]? = some (.cells bcells 26)) := by
    have h := heap_alloc_new (w.alloc (.cells #[.slice (some ⟨b, o, none⟩) M c, .int .i64 (n : Int)] 26)) (.cells bcells 26)
    have hs : (w.alloc (.cells #[.slice (some ⟨b, o, none⟩) M c, .int .i64 (n : Int)] 26)).heap.size = w.heap.size + 1 := by simp
    rw [hs] at h
    exact h
  have HBI := Lib.hid (hbin.below HB0.out)
  have HTZ := Lib.hid (ht.below HB0.out)
  have HNN := Lib.hid hn
  rw [← hM] at HBI ⊢
  have HMM := Lib.hid hM
  clear hbin ht hn hM
  subst hq
  all_goals
    go_enter Tryz.func66, Tryz.ntmps66
    obtain ⟨p0, p1, pf⟩ := pair_of HK0.out
    go_wp2_with fail
    clear p0 p1 pf HK0
    generalize (w.alloc (.cells #[.slice (some ⟨b, o, none⟩) M c, .int .i64 (n : Int)] 26)).alloc (.cells bcells 26) = W0 at HB0 HK1 HBI HTZ ⊢
    refine (nparity_any _ n _ _ HNN.out HBI.out).mono ?_
    rintro e w3 ⟨v3, rfl, hnb, hb3⟩
    have HN3 := Lib.hid hnb
    have HBI3 := Lib.hid hnb.bits
    have HB3 := Lib.hid (bel_both HB0.out hb3)
    have HT3 := Lib.hid (HTZ.out.below hb3)
    have HS3 := Lib.hid HB0.out.size
    have HK3 := Lib.hid (show w3.heap[w.heap.size + 1]? = some (.cells bcells 26) by rw [hb3.block _ (lt_of_block HK1.out)]; exact HK1.out)
    have HKS3 := Lib.hid (lt_of_block HK1.out)
    clear hnb hb3 HBI HK1 HB0 HTZ
    obtain ⟨g, rfl, hr⟩ := HN3.out
    have hg := hr.low.1
    have hks := HKS3.out
    have HR := Lib.hid (hr.lower HS3.out)
    rw [← HMM.out] at HR
    rw [← HMM.out]
    clear hr
    obtain ⟨hk0, hk1, hkf⟩ := pair_of HK3.out
    go_wp2
    refine bodyPost_ret (v := .tuple #[.agg #[.slice (some ⟨g, 0, none⟩) M M, .int .i64 (n : Int)], .bool true]) (ret_bits2 (fn := Tryz.f66) (p := 4) (u := 5) rfl _ _ (w.heap.size + 1) (by rfl) (set2_block HK3.out _ _)) rfl ⟨.inl ⟨g, fun j => Go.Proofs.YtdddmehchfnppaaGreatDoor.pre l (j + 1), by rw [HMM.out], ?_, .inr (.inr (.inl ⟨rfl, rfl⟩))⟩, below_set2 HB3.out (Nat.le_succ _) _ _⟩
    rw [← HMM.out]
    exact own_set2 HR.out (by show some g ≠ _; intro e; injection e; omega) _ _

set_option maxRecDepth 100000 in
set_option maxHeartbeats 400000 in
theorem srow_first (q : Int) (hq : q = 11) (v : Value) (n : Nat) (l : Nat → Bool) (w : World) (hn : n ≤ 1048576) (hb : BitsIn w v n l) (ht : TzTab w) :
    Calls Tryz.prog 66 #[.int .i64 q, v] w (SrOut q l n w) := by
  have hbin := hb
  obtain ⟨b, o, c, rfl, _⟩ := hb
  obtain ⟨M, hM⟩ : ∃ M, M = (n + 63) / 64 := ⟨_, rfl⟩
  have HB0 := Lib.hid (bel2 w (.cells #[.slice (some ⟨b, o, none⟩) M c, .int .i64 (n : Int)] 26) (.cells bcells 26))
  have HK0 := Lib.hid (block_up (bel1 (w.alloc (.cells #[.slice (some ⟨b, o, none⟩) M c, .int .i64 (n : Int)] 26)) (.cells bcells 26)))
  have HK1 : Hid (((w.alloc (.cells #[.slice (some ⟨b, o, none⟩) M c, .int .i64 (n : Int)] 26)).alloc (.cells bcells 26)).heap[w.heap.size + 1]? = some (.cells bcells 26)) := by
    have h := heap_alloc_new (w.alloc (.cells #[.slice (some ⟨b, o, none⟩) M c, .int .i64 (n : Int)] 26)) (.cells bcells 26)
    have hs : (w.alloc (.cells #[.slice (some ⟨b, o, none⟩) M c, .int .i64 (n : Int)] 26)).heap.size = w.heap.size + 1 := by simp
    rw [hs] at h
    exact h
  have HBI := Lib.hid (hbin.below HB0.out)
  have HTZ := Lib.hid (ht.below HB0.out)
  have HNN := Lib.hid hn
  rw [← hM] at HBI ⊢
  have HMM := Lib.hid hM
  clear hbin ht hn hM
  subst hq
  all_goals
    go_enter Tryz.func66, Tryz.ntmps66
    obtain ⟨p0, p1, pf⟩ := pair_of HK0.out
    go_wp2_with fail
    clear p0 p1 pf HK0
    generalize (w.alloc (.cells #[.slice (some ⟨b, o, none⟩) M c, .int .i64 (n : Int)] 26)).alloc (.cells bcells 26) = W0 at HB0 HK1 HBI HTZ ⊢
    refine (nfirst_any _ n _ _ HNN.out HBI.out HTZ.out).mono ?_
    rintro e w3 ⟨v3, z, rfl, hz, hnb, hb3⟩
    have HZ := Lib.hid hz
    have HN3 := Lib.hid hnb
    have HBI3 := Lib.hid hnb.bits
    have HB3 := Lib.hid (bel_both HB0.out hb3)
    have HT3 := Lib.hid (HTZ.out.below hb3)
    have HS3 := Lib.hid HB0.out.size
    have HK3 := Lib.hid (show w3.heap[w.heap.size + 1]? = some (.cells bcells 26) by rw [hb3.block _ (lt_of_block HK1.out)]; exact HK1.out)
    have HKS3 := Lib.hid (lt_of_block HK1.out)
    clear hnb hb3 hz HBI HK1 HB0 HTZ
    obtain ⟨g, rfl, hr⟩ := HN3.out
    have hg := hr.low.1
    have hks := HKS3.out
    have HR := Lib.hid (hr.lower HS3.out)
    rw [← HMM.out] at HR
    rw [← HMM.out]
    clear hr
    obtain ⟨hk0, hk1, hkf⟩ := pair_of HK3.out
    go_wp2
    refine bodyPost_ret (v := .tuple #[.agg #[.slice (some ⟨g, 0, none⟩) M M, .int .i64 (n : Int)], .bool true]) (ret_bits2 (fn := Tryz.f66) (p := 4) (u := 5) rfl _ _ (w.heap.size + 1) (by rfl) (set2_block HK3.out _ _)) rfl ⟨.inl ⟨g, fun j => decide (j = z), by rw [HMM.out], ?_, .inr (.inr (.inr (.inl ⟨rfl, z, HZ.out, rfl⟩)))⟩, below_set2 HB3.out (Nat.le_succ _) _ _⟩
    rw [← HMM.out]
    exact own_set2 HR.out (by show some g ≠ _; intro e; injection e; omega) _ _

set_option maxRecDepth 100000 in
set_option maxHeartbeats 400000 in
theorem srow_last (q : Int) (hq : q = 12) (v : Value) (n : Nat) (l : Nat → Bool) (w : World) (hn : n ≤ 1048576) (hb : BitsIn w v n l) (ht : TzTab w) :
    Calls Tryz.prog 66 #[.int .i64 q, v] w (SrOut q l n w) := by
  have hbin := hb
  obtain ⟨b, o, c, rfl, _⟩ := hb
  obtain ⟨M, hM⟩ : ∃ M, M = (n + 63) / 64 := ⟨_, rfl⟩
  have HB0 := Lib.hid (bel2 w (.cells #[.slice (some ⟨b, o, none⟩) M c, .int .i64 (n : Int)] 26) (.cells bcells 26))
  have HK0 := Lib.hid (block_up (bel1 (w.alloc (.cells #[.slice (some ⟨b, o, none⟩) M c, .int .i64 (n : Int)] 26)) (.cells bcells 26)))
  have HK1 : Hid (((w.alloc (.cells #[.slice (some ⟨b, o, none⟩) M c, .int .i64 (n : Int)] 26)).alloc (.cells bcells 26)).heap[w.heap.size + 1]? = some (.cells bcells 26)) := by
    have h := heap_alloc_new (w.alloc (.cells #[.slice (some ⟨b, o, none⟩) M c, .int .i64 (n : Int)] 26)) (.cells bcells 26)
    have hs : (w.alloc (.cells #[.slice (some ⟨b, o, none⟩) M c, .int .i64 (n : Int)] 26)).heap.size = w.heap.size + 1 := by simp
    rw [hs] at h
    exact h
  have HBI := Lib.hid (hbin.below HB0.out)
  have HTZ := Lib.hid (ht.below HB0.out)
  have HNN := Lib.hid hn
  rw [← hM] at HBI ⊢
  have HMM := Lib.hid hM
  clear hbin ht hn hM
  subst hq
  all_goals
    go_enter Tryz.func66, Tryz.ntmps66
    obtain ⟨p0, p1, pf⟩ := pair_of HK0.out
    go_wp2_with fail
    clear p0 p1 pf HK0
    generalize (w.alloc (.cells #[.slice (some ⟨b, o, none⟩) M c, .int .i64 (n : Int)] 26)).alloc (.cells bcells 26) = W0 at HB0 HK1 HBI HTZ ⊢
    refine (nnot_any _ n _ _ HNN.out HBI.out).mono ?_
    rintro e w3 ⟨v3, rfl, hnb, hb3⟩
    have HN3 := Lib.hid hnb
    have HBI3 := Lib.hid hnb.bits
    have HB3 := Lib.hid (bel_both HB0.out hb3)
    have HT3 := Lib.hid (HTZ.out.below hb3)
    have HS3 := Lib.hid HB0.out.size
    have HK3 := Lib.hid (show w3.heap[w.heap.size + 1]? = some (.cells bcells 26) by rw [hb3.block _ (lt_of_block HK1.out)]; exact HK1.out)
    have HKS3 := Lib.hid (lt_of_block HK1.out)
    clear hnb hb3 HBI HK1 HB0 HTZ
    go_wp2_with fail
    refine (nfirst_any _ n _ _ HNN.out HBI3.out HT3.out).mono ?_
    rintro e w4 ⟨v4, z, rfl, hz, hnb, hb4⟩
    have HZ := Lib.hid hz
    have HN4 := Lib.hid hnb
    have HBI4 := Lib.hid hnb.bits
    have HB4 := Lib.hid (bel_both HB3.out hb4)
    have HT4 := Lib.hid (HT3.out.below hb4)
    have HS4 := Lib.hid HB3.out.size
    have HK4 := Lib.hid (show w4.heap[w.heap.size + 1]? = some (.cells bcells 26) by rw [hb4.block _ (lt_of_block HK3.out)]; exact HK3.out)
    have HKS4 := Lib.hid (lt_of_block HK3.out)
    clear hnb hb4 hz HBI3 HK3 HB3 HT3
    go_wp2_with fail
    refine (nnot_any _ n _ _ HNN.out HBI4.out).mono ?_
    rintro e w5 ⟨v5, rfl, hnb, hb5⟩
    have HN5 := Lib.hid hnb
    have HBI5 := Lib.hid hnb.bits
    have HB5 := Lib.hid (bel_both HB4.out hb5)
    have HT5 := Lib.hid (HT4.out.below hb5)
    have HS5 := Lib.hid HB4.out.size
    have HK5 := Lib.hid (show w5.heap[w.heap.size + 1]? = some (.cells bcells 26) by rw [hb5.block _ (lt_of_block HK4.out)]; exact HK4.out)
    have HKS5 := Lib.hid (lt_of_block HK4.out)
    clear hnb hb5 HBI4 HK4 HB4 HT4
    obtain ⟨g, rfl, hr⟩ := HN5.out
    have hg := hr.low.1
    have hks := HKS5.out
    have HR := Lib.hid (hr.lower HS5.out)
    rw [← HMM.out] at HR
    rw [← HMM.out]
    clear hr
    obtain ⟨hk0, hk1, hkf⟩ := pair_of HK5.out
    go_wp2
    refine bodyPost_ret (v := .tuple #[.agg #[.slice (some ⟨g, 0, none⟩) M M, .int .i64 (n : Int)], .bool true]) (ret_bits2 (fn := Tryz.f66) (p := 4) (u := 5) rfl _ _ (w.heap.size + 1) (by rfl) (set2_block HK5.out _ _)) rfl ⟨.inl ⟨g, fun j => !decide (j = z), by rw [HMM.out], ?_, .inr (.inr (.inr (.inr ⟨rfl, z, HZ.out, rfl⟩)))⟩, below_set2 HB5.out (Nat.le_succ _) _ _⟩
    rw [← HMM.out]
    exact own_set2 HR.out (by show some g ≠ _; intro e; injection e; omega) _ _

set_option maxRecDepth 100000 in
set_option maxHeartbeats 400000 in
theorem srow_other (q : Int) (h5 : q ≠ 5) (h22 : q ≠ 22) (h6 : q ≠ 6) (h3 : q ≠ 3) (h21 : q ≠ 21) (h16 : q ≠ 16) (h11 : q ≠ 11) (h12 : q ≠ 12) (v : Value) (n : Nat) (l : Nat → Bool) (w : World) (hb : BitsIn w v n l) :
    Calls Tryz.prog 66 #[.int .i64 q, v] w (SrOut q l n w) := by
  obtain ⟨b, o, c, rfl, _⟩ := hb
  have n5 : (q == 5) = false := by simpa using h5
  have n22 : (q == 22) = false := by simpa using h22
  have n6 : (q == 6) = false := by simpa using h6
  have n3 : (q == 3) = false := by simpa using h3
  have n21 : (q == 21) = false := by simpa using h21
  have n16 : (q == 16) = false := by simpa using h16
  have n11 : (q == 11) = false := by simpa using h11
  have n12 : (q == 12) = false := by simpa using h12
  have HB0 := Lib.hid (bel2 w (.cells #[.slice (some ⟨b, o, none⟩) ((n + 63) / 64) c, .int .i64 (n : Int)] 26) (.cells bcells 26))
  have HK1 : Hid (((w.alloc (.cells #[.slice (some ⟨b, o, none⟩) ((n + 63) / 64) c, .int .i64 (n : Int)] 26)).alloc (.cells bcells 26)).heap[w.heap.size + 1]? = some (.cells bcells 26)) := by
    have h := heap_alloc_new (w.alloc (.cells #[.slice (some ⟨b, o, none⟩) ((n + 63) / 64) c, .int .i64 (n : Int)] 26)) (.cells bcells 26)
    have hs : (w.alloc (.cells #[.slice (some ⟨b, o, none⟩) ((n + 63) / 64) c, .int .i64 (n : Int)] 26)).heap.size = w.heap.size + 1 := by simp
    rw [hs] at h
    exact h
  clear h5 h22 h6 h3 h21 h16 h11 h12
  go_enter Tryz.func66, Tryz.ntmps66
  obtain ⟨hk0, hk1, hkf⟩ := pair_of HK1.out
  go_wp2
  exact bodyPost_ret (v := .tuple #[.agg #[vnil, .int .i64 0], .bool false]) (ret_bits2 (fn := Tryz.f66) (p := 4) (u := 5) rfl _ _ (w.heap.size + 1) (by rfl) HK1.out) rfl ⟨.inr rfl, HB0.out⟩

theorem srow_any (q : Int) (v : Value) (n : Nat) (l : Nat → Bool) (w : World) (hn : n ≤ 1048576) (hb : BitsIn w v n l) (ht : TzTab w) :
    Calls Tryz.prog 66 #[.int .i64 q, v] w (SrOut q l n w) := by
  by_cases h5 : q = 5 ∨ q = 22
  · exact srow_fill q h5 v n l w hn hb ht
  by_cases h6 : q = 6 ∨ q = 3 ∨ q = 21
  · exact srow_all q h6 v n l w hn hb ht
  by_cases h16 : q = 16
  · exact srow_par q h16 v n l w hn hb ht
  by_cases h11 : q = 11
  · exact srow_first q h11 v n l w hn hb ht
  by_cases h12 : q = 12
  · exact srow_last q h12 v n l w hn hb ht
  · exact srow_other q (by omega) (by omega) (by omega) (by omega) (by omega) h16 h11 h12 v n l w hb
end Go.Proofs.YtdddmehchfnppaaGreatDoor
