/- The statement FoldRows, from what its parts tell. Conditions: as each theorem says. -/
import Derived.Test.YtdddmehchfnppaaDoorMg44
import Derived.Test.YtdddmehchfnppaaDoorMg12
import Derived.Test.YtdddmehchfnppaaDoorMg31
namespace Go.Proofs.YtdddmehchfnppaaDoor
open Go Go.RowKit Go.Proofs Fl

set_option maxRecDepth 100000 in
set_option maxHeartbeats 1000000 in
theorem rfold_unknown (q : Int) (hq : knownB q = false) (l : Value) (o n r : Int) (w : World) :
    Calls Tryd.prog 11 #[.int .i64 q, l, .int .i64 o, .int .i64 n, .int .i64 r] w (RowErr 1 w) := by
  have HK := Lib.hid (fun W => hq ▸ rknown_any q W)
  clear hq
  go_enter Tryd.func11, Tryd.ntmps11
  go_wp2_with fail
  refine (HK.out _).mono ?_
  rintro e w1 ⟨rfl, rfl⟩
  go_wp2
  go_ret2
  exact ⟨rfl, Below.refl _ _⟩

set_option maxRecDepth 100000 in
set_option maxHeartbeats 1000000 in
theorem rfold_start (q : Int) (hq : knownB q = true) (hs : startF q = none) (l : Value) (o r : Nat) (w : World) :
    Calls Tryd.prog 11 #[.int .i64 q, l, .int .i64 (o : Int), .int .i64 0, .int .i64 (r : Int)] w (RowErr 24 w) := by
  have HK : Hid (∀ W, Calls Tryd.prog 19 #[.int .i64 q] W fun e w' => e = .returned (.bool true) ∧ W = w') := fun W => by rw [← hq]; exact rknown_any q W
  have HS := Lib.hid (fun W => hs ▸ rstart_any q hq W)
  unfold StartR at HS
  clear hq hs
  go_enter Tryd.func11, Tryd.ntmps11
  go_wp2_with fail
  refine (HK.out _).mono ?_
  rintro e w1 ⟨rfl, rfl⟩
  go_wp2_with fail
  refine (HS.out _).mono ?_
  rintro e w1 ⟨rfl, hb⟩
  have HB := Lib.hid hb
  clear hb
  go_wp2
  go_ret2
  exact ⟨rfl, HB.out⟩

theorem rowOk_of {N : Nat} {r : Nat → Option Nat} {G : Nat → Nat} {w : World} (hall : ∀ c, c < N → r c = some (G c)) (e : Ending) (w' : World) (h : RfOut N r w e w') : RowOk N G w e w' := by
  rcases h with ⟨_, ⟨v, rfl, ho⟩, hb⟩ | ⟨⟨c, hc, h0⟩, _⟩
  · refine ⟨v, rfl, ?_, hb⟩
    have e1 : ((List.range N).map fun j => Value.float .f64 (getR r j)) = (List.range N).map fun j => .float .f64 (G j) := by
      apply List.map_congr_left
      intro j hj
      show Value.float .f64 ((r j).getD 0) = _
      rw [hall j (List.mem_range.1 hj)]
      rfl
    rw [← e1]
    exact ho.reads
  · rw [hall c hc] at h0; cases h0
theorem rowErr_of {N : Nat} {r : Nat → Option Nat} {w : World} (hbad : ∃ c, c < N ∧ r c = none) (e : Ending) (w' : World) (h : RfOut N r w e w') : RowErr 24 w e w' := by
  rcases h with ⟨hall, _, _⟩ | ⟨_, rfl, hb⟩
  · obtain ⟨c, hc, h0⟩ := hbad
    obtain ⟨y, hy⟩ := hall c hc
    rw [h0] at hy; cases hy
  · exact ⟨rfl, hb⟩

/-- the reference's Fold of at least one element to a row -/
theorem rfold_num (q : Int) (hq : knownB q = true) (v : Value) (T o n r : Nat) (G : Nat → Nat) (w : World) (hT : T = o * n * r) (hn : 1 ≤ n) (hb1 : o ≤ 1000) (hb2 : n ≤ 1000) (hb3 : r ≤ 1000) (hbT : T ≤ 1000000) (hbN : o * r ≤ 1000000)
    (hv : Reads1 w v ((List.range T).map fun j => .float .f64 (G j))) (hG : ∀ j, j < T → TF (G j)) :
    Calls Tryd.prog 11 #[.int .i64 q, v, .int .i64 (o : Int), .int .i64 (n : Int), .int .i64 (r : Int)] w (RfOut (o * r) (rowsR (oneP pwP q) G n r) w) := by
  refine rfold_gen q hq v o n r _ (fun oo k u W => Reads1 W u ((List.range n).map fun i => .float .f64 (lineF G n r oo k i))) w (fun e => by omega) hb1 hb2 hb3 hbN (fun oo k W ho hk hb => ?_) (fun oo k u W ho hk hu => ?_)
  · refine (line13_any v T o n r oo k G W hT ho hk hb1 hb2 hb3 hbT (hv.below hb)).mono ?_
    rintro e w' ⟨u, rfl, hu, hb2⟩
    exact ⟨u, rfl, hu.reads, hb2⟩
  · rw [rowsR_at hk]
    refine row13_any powIs q hq u n _ W hn hb2 hu (fun i hi => hG _ ?_)
    rw [hT]
    have h1 : oo * n + i + 1 ≤ o * n := by
      have : (oo + 1) * n ≤ o * n := Nat.mul_le_mul_right _ ho
      rw [Nat.add_mul] at this
      omega
    have h2 : (oo * n + i + 1) * r ≤ o * n * r := Nat.mul_le_mul_right _ h1
    rw [Nat.add_mul, Nat.add_mul] at h2
    omega
theorem rfold_none (q : Int) (hq : knownB q = true) (x : Nat) (hx : startF q = some x) (v : Value) (o r : Nat) (w : World) (hb1 : o ≤ 1000) (hb3 : r ≤ 1000) (hbN : o * r ≤ 1000000)
    {G : Nat → Nat} (hv : Reads1 w v ((List.range 0).map fun j => .float .f64 (G j))) :
    Calls Tryd.prog 11 #[.int .i64 q, v, .int .i64 (o : Int), .int .i64 0, .int .i64 (r : Int)] w (RfOut (o * r) (fun _ => some x) w) := by
  refine rfold_gen q hq v o 0 r _ (fun oo k u W => Reads1 W u []) w (fun _ => ⟨x, hx⟩) hb1 (by omega) hb3 hbN (fun oo k W ho hk hb => ?_) (fun oo k u W ho hk hu => ?_)
  · refine (line13_any v 0 o 0 r oo k G W (by simp) ho hk hb1 (by omega) hb3 (by omega) (hv.below hb)).mono ?_
    rintro e w' ⟨u, rfl, hu, hb2⟩
    exact ⟨u, rfl, hu.reads, hb2⟩
  · obtain ⟨a, c, rfl⟩ := hu.len
    have := row13_zero q hq a c W
    rw [hx] at this
    exact this

theorem vecOk_fold {t : Prop} {N : Nat} {G : Nat → Nat} {w : World} (e : Ending) (w' : World) (h : VecOk (fun _ => False) w (fun u W => NumV u (leastF G N : Nat) N G W) e w') : FoldOk t N G w e w' := by
  obtain ⟨k, b, bn, s, i, f, c, x, rfl, hk, hb⟩ := h
  have e1 := hk.now.kindEq
  refine ⟨k, b, bn, s, i, f, c, x, rfl, fun W' hW => ?_, .inr e1, hb⟩
  rw [e1]
  have := (hk.step hW).now
  rw [e1] at this
  exact this

/-- how many elements there are along the axis -/
theorem rowsN (n o r : Nat) : ∃ q T : Nat, RowsN n o r (q : Int) T ∧ T = o * q * r ∧ (q = 0 ∨ (0 < o ∧ 0 < r)) := by
  by_cases h : 0 < o ∧ 0 < r
  · have h1 : n / o / r * o * r ≤ n := by
      have a1 := Nat.div_mul_le_self (n / o) r
      have a2 := Nat.div_mul_le_self n o
      have a3 : n / o / r * o * r = n / o / r * r * o := by rw [Nat.mul_right_comm]
      rw [a3]
      exact Nat.le_trans (Nat.mul_le_mul_right _ a1) a2
    refine ⟨n / o / r, n / o / r * o * r, ⟨.inl ⟨h.1, h.2, by push_cast; rfl⟩, Int.natCast_nonneg _, ?_, by rw [Int.toNat_natCast], h1⟩, by rw [Nat.mul_comm o], .inr h⟩
    have b1 := Nat.div_le_self (n / o) r
    have b2 := Nat.div_le_self n o
    exact Int.ofNat_le.2 (Nat.le_trans b1 b2)
  · refine ⟨0, 0, ⟨?_, by omega, by omega, by simp, by omega⟩, by simp, .inl rfl⟩
    by_cases ho : o = 0
    · exact .inr (.inl ⟨ho, rfl⟩)
    · exact .inr (.inr ⟨by omega, by omega, rfl⟩)

theorem foldRows_in (f : Int) (a : Option Addr) (n c : Nat) (o r : Nat) (kd : Int) (F : Nat → Nat) (w : World) (hn : n ≤ 300) (ho : o ≤ 300) (hr : r ≤ 300) (hnc : n ≤ c)
    (hv : Reads1 w (.slice a n c) ((List.range n).map fun j => .float .f64 (F j))) (hF : ∀ j, j < n → F j < 18446744073709551616) (ht : TzTab w) :
    Calls Tryd.prog 4 #[.int .i64 f, .slice a n c, .int .i64 (o : Int), .int .i64 (r : Int), .int .i64 kd] w fun e w' => e = .returned (.bool true) ∧ Below w.heap.size w w' := by
  obtain ⟨q, T, hQ, hT, hq⟩ := rowsN n o r
  have hTn := hQ.tn
  have hvT : Reads1 w (.slice a T c) ((List.range T).map fun j => .float .f64 (F j)) := by
    obtain ⟨a2, c2, e, hc⟩ := reads_at hv
    injection e with e1 _ e3
    subst e1; subst e3
    by_cases h0 : T = 0
    · subst h0; exact .inl ⟨a, c, rfl, rfl⟩
    · obtain ⟨b, o2, rfl, _⟩ := hc 0 (by omega)
      refine .inr ⟨b, o2, T, c, rfl, by simp, fun i hi => ?_⟩
      have hi' : i < T := by simpa using hi
      rw [reads_cell hv i (by omega)]
      simp
  have hFT : ∀ j, j < T → F j < 18446744073709551616 := fun j hj => hF j (by omega)
  have hkept := kept_all (fun _ => False) (.slice a T c) kd T F w (fun _ h => h.elim) (by omega) hvT hFT
  have hN1 : o * r ≤ 1000000 := by
    have : o * r ≤ 300 * 300 := Nat.mul_le_mul ho hr
    omega
  rcases first_bad (fun j => okF (F j)) T with hall | ⟨K, hK, hbad, _⟩
  · have hG : ∀ j, j < T → TF (tidF (F j)) := fun j hj => by
      rcases ok_cases (hFT j hj) with h | h
      · exact h.2.1
      · rw [hall j hj] at h; cases h.1
    have hK : Calls Tryd.prog 9 #[.slice a T c, .int .i64 kd] w (KeptOk T (fun j => tidF (F j)) w) := by
      refine hkept.mono ?_
      rintro e w' (⟨_, k, b, bn, s, i, f, cc, x, rfl, _, hk, hb⟩ | ⟨⟨j, hj, h0⟩, _⟩)
      · exact ⟨k, b, bn, s, i, f, cc, x, rfl, fun W' hW => (hk.step hW).now, hb⟩
      · rw [hall j hj] at h0; cases h0
    have hTd : ∀ W, Below w.heap.size w W → Calls Tryd.prog 14 #[.slice a T c] W (TidyOk T (fun j => tidF (F j)) W) := by
      intro W hb
      refine (rtidyL_any (hvT.below hb) (by omega) hFT hall).mono ?_
      rintro e w' ⟨v, rfl, hv, hb2⟩
      exact ⟨v, rfl, hv.reads, hb2⟩
    obtain ⟨G, hGe⟩ : ∃ G : Nat → Nat, G = fun j => tidF (F j) := ⟨_, rfl⟩
    rw [← hGe] at hK hTd
    have hG : ∀ j, j < T → TF (G j) := fun j hj => by rw [hGe]; exact hG j hj
    clear hGe
    cases hkn : knownB f with
    | false =>
      exact foldRows_err f a n c o r kd q T G 1 w hn ho hr hnc hQ hK hTd (fun W k b bn s i f' g x hb hN => fold_unknown f hkn _ _ _ _ _ _ _ _ _ _ _ W) (fun W v hb hv => rfold_unknown f hkn _ _ _ _ W) (by decide)
    | true =>
      by_cases hq0 : q = 0
      · subst hq0
        have hT0 : T = 0 := by rw [hT]; simp
        cases hs : startF f with
        | none =>
          refine foldRows_err f a n c o r kd _ T G 24 w hn ho hr hnc hQ hK hTd (fun W k b bn s i f' g x hb hN => ?_) (fun W v hb hv => rfold_start f hkn hs _ _ _ W) (by decide)
          refine (fold_none (fun _ => False) f hkn k b bn s i f' g x T o r G W (fun _ h => h.elim) (by omega) (by omega) hN1 (fun W' h => numX_of (hN W' h))).mono ?_
          rw [hs]
          rintro e w' (⟨x, h, _⟩ | ⟨_, rfl, hb⟩)
          · cases h
          · exact ⟨rfl, hb⟩
        | some x =>
          refine foldRows_ok f a n c o r kd _ T (o * r) G (fun _ => x) w hn ho hr hnc hQ hK hTd (fun W k b bn s i f' g x' hb hN => ?_) (fun W v hb hv => ?_) hN1 (fun _ _ => startF_tf hs)
          · refine (fold_none (fun _ => False) f hkn k b bn s i f' g x' T o r G W (fun _ h => h.elim) (by omega) (by omega) hN1 (fun W' h => numX_of (hN W' h))).mono ?_
            rw [hs]
            rintro e w' (⟨y, h, hv⟩ | ⟨h, _⟩)
            · injection h with h
              subst h
              exact vecOk_fold e w' hv
            · cases h
          · subst hT0
            exact (rfold_none f hkn x hs v o r W (by omega) (by omega) hN1 hv).mono (rowOk_of fun _ _ => rfl)
      · obtain ⟨o0, r0⟩ := hq.resolve_left hq0
        have hqn : q ≤ 300 := by have := hQ.q1; omega
        by_cases hq1 : q = 1
        · subst hq1
          have hTor : T = o * r := by rw [hT, Nat.mul_one]
          have hrow : ∀ cc, cc < o * r → rowsR (oneP pwP f) G 1 r cc = some (G cc) := by
            intro cc hcc
            have e : cc / r * 1 * r + cc % r + (1 - 1) * r = cc := by
              rw [Nat.mul_one, Nat.sub_self, Nat.zero_mul, Nat.add_zero, Nat.mul_comm]
              exact Nat.div_add_mod cc r
            show some (lineF G 1 r (cc / r) (cc % r) (1 - 1)) = _
            show some (G (cc / r * 1 * r + cc % r + (1 - 1) * r)) = _
            rw [e]
          refine foldRows_ok f a n c o r kd _ T (o * r) G G w hn ho hr hnc hQ hK hTd (fun W k b bn s i f' g x hb hN => ?_) (fun W v hb hv => ?_) hN1 (fun j hj => hG j (by omega))
          · refine (fold_one f hkn k b bn s i f' g x T o r G W (fun W' h => numX_of (hN W' h))).mono ?_
            rintro e w' ⟨rfl, hb⟩
            refine ⟨k, b, bn, s, i, f', g, x, rfl, fun W' h => ?_, .inl rfl, hb⟩
            rw [← hTor]
            exact hN W' (bel_both hb h)
          · exact (rfold_num f hkn v T o 1 r G W hT (Nat.le_refl _) (by omega) (by omega) (by omega) (by omega) hN1 hv hG).mono (rowOk_of hrow)
        · have hF2 : ∀ W (k : Int) (b : Sl) (bn : Int) (s i f' g x : Sl), Below w.heap.size w W → (∀ W', Below W.heap.size W W' → NumV (vecW k b bn s i f' g x) k T G W') → Calls Tryd.prog 10 #[.int .i64 f, vecW k b bn s i f' g x, .int .i64 (o : Int), .int .i64 (q : Int), .int .i64 (r : Int)] W (FlOut (fun _ => False) W (oneP pwP f) G q r (o * r)) := by
            intro W k b bn s i f' g x hb hN
            have hT0 : 0 < T := by rw [hT]; exact Nat.mul_pos (Nat.mul_pos o0 (by omega)) r0
            exact fold_two powIs (fun _ => False) f hkn k b bn s i f' g x T o q r G W (fun _ h => h.elim) hT (by omega) (by omega) (by omega) (by omega) (by omega) hN1 (fun _ => hT0) (fun W' h => numX_of (hN W' h)) (ht.below hb)
          have hR2 : ∀ W v, Below w.heap.size w W → Reads1 W v ((List.range T).map fun j => .float .f64 (G j)) → Calls Tryd.prog 11 #[.int .i64 f, v, .int .i64 (o : Int), .int .i64 (q : Int), .int .i64 (r : Int)] W (RfOut (o * r) (rowsR (oneP pwP f) G q r) W) :=
            fun W v hb hv => rfold_num f hkn v T o q r G W hT (by omega) (by omega) (by omega) (by omega) (by omega) hN1 hv hG
          by_cases hyes : ∀ cc, cc < o * r → ∃ y, rowsR (oneP pwP f) G q r cc = some y
          · have hrow : ∀ cc, cc < o * r → rowsR (oneP pwP f) G q r cc = some (outF (oneP pwP f) G q r cc) := by
              intro cc hcc
              obtain ⟨y, hy⟩ := hyes cc hcc
              rw [outF_some hy]; exact hy
            refine foldRows_ok f a n c o r kd _ T (o * r) G (outF (oneP pwP f) G q r) w hn ho hr hnc hQ hK hTd (fun W k b bn s i f' g x hb hN => ?_) (fun W v hb hv => (hR2 W v hb hv).mono (rowOk_of hrow)) hN1 (fun cc hcc => ?_)
            · refine (hF2 W k b bn s i f' g x hb hN).mono ?_
              rintro e w' (⟨_, hv⟩ | ⟨⟨cc, hcc, h0⟩, _⟩)
              · exact vecOk_fold e w' hv
              · rw [hrow cc hcc] at h0; cases h0
            · have h1 := hrow cc hcc
              refine stepsR_tf powIs (n := q) (x := lineF G q r (cc / r) (cc % r)) (by omega) (fun i hi => hG _ ?_) (q - 1) (Nat.le_refl _) _ h1
              rw [hT]
              have c1 : cc / r < o := Nat.div_lt_of_lt_mul (by rw [Nat.mul_comm]; exact hcc)
              have c2 : cc % r < r := Nat.mod_lt _ r0
              have h1 : cc / r * q + i + 1 ≤ o * q := by
                have : (cc / r + 1) * q ≤ o * q := Nat.mul_le_mul_right _ c1
                rw [Nat.add_mul] at this
                omega
              have h2 : (cc / r * q + i + 1) * r ≤ o * q * r := Nat.mul_le_mul_right _ h1
              rw [Nat.add_mul, Nat.add_mul] at h2
              omega
          · have hbad : ∃ cc, cc < o * r ∧ rowsR (oneP pwP f) G q r cc = none := by
              obtain ⟨cc, h1⟩ := Classical.not_forall.1 hyes
              obtain ⟨h2, h3⟩ := Classical.not_imp.1 h1
              refine ⟨cc, h2, ?_⟩
              cases he : rowsR (oneP pwP f) G q r cc with
              | none => rfl
              | some y => exact absurd ⟨y, he⟩ h3
            refine foldRows_err f a n c o r kd _ T G 24 w hn ho hr hnc hQ hK hTd (fun W k b bn s i f' g x hb hN => ?_) (fun W v hb hv => (hR2 W v hb hv).mono (rowErr_of hbad)) (by decide)
            refine (hF2 W k b bn s i f' g x hb hN).mono ?_
            rintro e w' (⟨hall, _⟩ | ⟨_, rfl, hb⟩)
            · obtain ⟨cc, hcc, h0⟩ := hbad
              obtain ⟨y, hy⟩ := hall cc hcc
              rw [h0] at hy; cases hy
            · exact ⟨rfl, hb⟩
  · refine foldRows_bad f a n c o r kd q T w hn ho hr hnc hQ (hkept.mono ?_)
    rintro e w' (⟨hall, _⟩ | ⟨_, h⟩)
    · rw [hall K hK] at hbad; cases hbad
    · exact h

theorem foldRows_any {w : World} {v : Value} {n : Nat} {F : Nat → Nat} (f : Int) (h : FRow w v n F) (o r kd : Int) (ht : TzTab w) :
    Calls Tryd.prog 4 #[.int .i64 f, v, .int .i64 o, .int .i64 r, .int .i64 kd] w fun e w' => e = .returned (.bool true) ∧ Below w.heap.size w w' := by
  obtain ⟨⟨a, c, rfl, hnc⟩, hv, hF⟩ := h
  by_cases hin : n ≤ 300 ∧ 0 ≤ o ∧ 0 ≤ r ∧ o ≤ 300 ∧ r ≤ 300
  · obtain ⟨h1, h2, h3, h4, h5⟩ := hin
    obtain ⟨o', rfl⟩ := Int.eq_ofNat_of_zero_le h2
    obtain ⟨r', rfl⟩ := Int.eq_ofNat_of_zero_le h3
    exact foldRows_in f a n c o' r' kd F w h1 (by omega) (by omega) hnc hv hF ht
  · exact foldRows_far f a n c o r kd w (by omega)
end Go.Proofs.YtdddmehchfnppaaDoor
