/- Merged texts. The statement ScanRows, from what its parts tell. Conditions: as each theorem says. The walks of scan.packed and scan.Scan where there are no rows. Conditions: as each theorem says. fold.Fold at numbers, whatever comes of it, told without the reference. Conditions: as each theorem says. scan.Scan and the reference's Scan at numbers: both tell the same, whatever comes of it; the last one of a row is what fold.Fold tells. Conditions: as each theorem says. -/
import Derived.Test.YtdddmehchfnppaaGreatDoorMg44
import Derived.Test.YtdddmehchfnppaaGreatDoorMg45
import Derived.Test.YtdddmehchfnppaaGreatDoorMg34
import Derived.Test.YtdddmehchfnppaaGreatDoorMg25
namespace Go.Proofs.YtdddmehchfnppaaGreatDoor
open Go Go.RowKit Go.Proofs Fl

/-- scan.packed where scan.Scan calls it -/
theorem packed_of (pw : Nat → Nat → Nat × Int) (q : Int) (k : Int) (b : Sl) (bn : Int) (s i f c x : Sl) (T outer n inner : Nat) (F : Nat → Nat) (w : World)
    (hT : T = outer * n * inner) (ho : 1 ≤ outer) (hn : 1 ≤ n) (hb1 : outer ≤ 1000) (hb2 : n ≤ 1000) (hN : ∀ W, Below w.heap.size w W → NumV (vecW k b bn s i f c x) k T F W) (ht : TzTab w) :
    k = 1 → inner = 1 → ∀ W, Below w.heap.size w W → Calls Tryz.prog 33 #[.int .i64 q, .agg #[.slice b.1 b.2.1 b.2.2, .int .i64 bn], .int .i64 (outer : Int), .int .i64 (n : Int)] W (SwOut (Hole (fun _ => False) w W) W (scanR (oneP pw q) F n 1) T) := by
  rintro rfl rfl W hw
  obtain ⟨rfl, L, hbits, hf⟩ := (hN W hw).bits
  exact spacked_any pw (Hole (fun _ => False) w W) q _ outer n T L F W (hole_lt (fun _ h => h.elim) hw) (by rw [hT, Nat.mul_one]) ho hn hb1 hb2 hbits.in (fun j hj => by rw [hf j hj, flagF_bI]) (ht.below hw)

theorem scanRows_in (f : Int) (a : Option Addr) (n c : Nat) (o r : Nat) (kd : Int) (F : Nat → Nat) (w : World) (hn : n ≤ 200) (ho : o ≤ 200) (hr : r ≤ 200) (hnc : n ≤ c)
    (hv : Reads1 w (.slice a n c) ((List.range n).map fun j => .float .f64 (F j))) (hF : ∀ j, j < n → F j < 18446744073709551616) (ht : TzTab w) :
    Calls Tryz.prog 3 #[.int .i64 f, .slice a n c, .int .i64 (o : Int), .int .i64 (r : Int), .int .i64 kd] w fun e w' => e = .returned (.bool true) ∧ Below w.heap.size w w' := by
  obtain ⟨q, T, hQ, hT, hq⟩ := rowsN n o r
  have hTn := hQ.tn
  have hvT : Reads1 w (.slice a T c) ((List.range T).map fun j => .float .f64 (F j)) := by
    obtain ⟨a2, c2, e, hc⟩ := reads_at hv
    injection e with e1 _ e3
    subst e1; subst e3
    by_cases h0 : T = 0
    · subst h0; exact .inl ⟨a, c, rfl, rfl⟩
    · obtain ⟨b, o2, rfl, _⟩ := hc 0 (by omega)
      refine .inr ⟨b, o2, T, c, rfl, by simp, fun i hi => ?_⟩
      have hi' : i < T := by simpa using hi
      rw [reads_cell hv i (by omega)]
      simp
  have hFT : ∀ j, j < T → F j < 18446744073709551616 := fun j hj => hF j (by omega)
  have hkept := skept_all (fun _ => False) (.slice a T c) kd T F w (fun _ h => h.elim) (by omega) hvT hFT
  rcases first_bad (fun j => okF (F j)) T with hall | ⟨K, hK, hbad, _⟩
  · have hG : ∀ j, j < T → TF (tidF (F j)) := fun j hj => by
      rcases ok_cases (hFT j hj) with h | h
      · exact h.2.1
      · rw [hall j hj] at h; cases h.1
    have hK : Calls Tryz.prog 7 #[.slice a T c, .int .i64 kd] w (KeptOk T (fun j => tidF (F j)) w) := by
      refine hkept.mono ?_
      rintro e w' (⟨_, k, b, bn, s, i, f, cc, x, rfl, _, hk, hb⟩ | ⟨⟨j, hj, h0⟩, _⟩)
      · exact ⟨k, b, bn, s, i, f, cc, x, rfl, fun W' hW => (hk.step hW).now, hb⟩
      · rw [hall j hj] at h0; cases h0
    have hTd : ∀ W, Below w.heap.size w W → Calls Tryz.prog 8 #[.slice a T c] W (TidyOk T (fun j => tidF (F j)) W) := by
      intro W hb
      refine (rtidyL_any (hvT.below hb) (by omega) hFT hall).mono ?_
      rintro e w' ⟨v, rfl, hv, hb2⟩
      exact ⟨v, rfl, hv.reads, hb2⟩
    obtain ⟨G, hGe⟩ : ∃ G : Nat → Nat, G = fun j => tidF (F j) := ⟨_, rfl⟩
    rw [← hGe] at hK hTd
    have hG : ∀ j, j < T → TF (G j) := fun j hj => by rw [hGe]; exact hG j hj
    clear hGe
    cases hkn : knownB f with
    | false =>
      exact scanRows_err f a n c o r kd q T G 1 w hn ho hr hnc hQ hK hTd (fun W k b bn s i f' g x hb hN => scan_unknown f hkn _ _ _ _ _ _ _ _ _ _ _ W) (fun W v hb hv => rscan_unknown f hkn _ _ _ _ W) (by decide)
    | true =>
      have hqn : q ≤ 200 := by have := hQ.q1; omega
      have hR : ∀ W v, Below w.heap.size w W → Reads1 W v ((List.range T).map fun j => .float .f64 (G j)) → Calls Tryz.prog 10 #[.int .i64 f, v, .int .i64 (o : Int), .int .i64 (q : Int), .int .i64 (r : Int)] W (RfOut T (scanR (oneP pwP f) G q r) W) :=
        fun W v hb hv => rscan_any powIs f hkn v T o q r G W hT (by omega) (by omega) (by omega) (by omega) hv hG
      by_cases hq1 : q ≤ 1
      · have hrow : ∀ cc, cc < T → scanR (oneP pwP f) G q r cc = some (G cc) := by
          intro cc hcc
          obtain rfl : q = 1 := by
            rcases Nat.eq_zero_or_pos q with e | e
            · rw [hT, e] at hcc; simp at hcc
            · omega
          exact scanR_one _ G o r cc (by rw [← hT]; exact hcc)
        refine scanRows_ok f a n c o r kd _ T T G G w hn ho hr hnc hQ hK hTd (fun W k b bn s i f' g x hb hN => ?_) (fun W v hb hv => (hR W v hb hv).mono (rowOk_of hrow)) (by omega) hG
        refine (scan_few f hkn k b bn s i f' g x o q r hq1 W (fun W' h => (hN W' h).cls)).mono ?_
        rintro e w' ⟨rfl, hb⟩
        exact ⟨k, b, bn, s, i, f', g, x, rfl, fun W' h => hN W' (bel_both hb h), .inl (by omega), hb⟩
      · obtain ⟨o0, r0⟩ := hq.resolve_left (by omega)
        have hT0 : 0 < T := by rw [hT]; exact Nat.mul_pos (Nat.mul_pos o0 (by omega)) r0
        have hF2 : ∀ W (k : Int) (b : Sl) (bn : Int) (s i f' g x : Sl), Below w.heap.size w W → (∀ W', Below W.heap.size W W' → NumV (vecW k b bn s i f' g x) k T G W') → Calls Tryz.prog 9 #[.int .i64 f, vecW k b bn s i f' g x, .int .i64 (o : Int), .int .i64 (q : Int), .int .i64 (r : Int)] W (SlOut (fun _ => False) W (scanR (oneP pwP f) G q r) T) := by
          intro W k b bn s i f' g x hb hN
          exact scan_two powIs (fun _ => False) f hkn k b bn s i f' g x T o q r G W (fun _ h => h.elim) hT (by omega) (by omega) (by omega) (by omega) (by omega) (fun _ => hT0) (fun W' h => numX_of (hN W' h)) (packed_of pwP f k b bn s i f' g x T o q r G W hT o0 (by omega) (by omega) (by omega) hN (ht.below hb))
        by_cases hyes : ∀ cc, cc < T → ∃ y, scanR (oneP pwP f) G q r cc = some y
        · have hrow : ∀ cc, cc < T → scanR (oneP pwP f) G q r cc = some (getR (scanR (oneP pwP f) G q r) cc) := by
            intro cc hcc
            obtain ⟨y, hy⟩ := hyes cc hcc
            unfold getR
            rw [hy]; rfl
          refine scanRows_ok f a n c o r kd _ T T G (getR (scanR (oneP pwP f) G q r)) w hn ho hr hnc hQ hK hTd (fun W k b bn s i f' g x hb hN => ?_) (fun W v hb hv => (hR W v hb hv).mono (rowOk_of hrow)) (by omega) (fun cc hcc => scanR_tf f G o q r T hT hG cc _ hcc (hrow cc hcc))
          refine (hF2 W k b bn s i f' g x hb hN).mono ?_
          rintro e w' (⟨_, hv⟩ | ⟨⟨cc, hcc, h0⟩, _⟩)
          · exact vecOk_fold e w' hv
          · rw [hrow cc hcc] at h0; cases h0
        · have hbad : ∃ cc, cc < T ∧ scanR (oneP pwP f) G q r cc = none := by
            obtain ⟨cc, h1⟩ := Classical.not_forall.1 hyes
            obtain ⟨h2, h3⟩ := Classical.not_imp.1 h1
            refine ⟨cc, h2, ?_⟩
            cases he : scanR (oneP pwP f) G q r cc with
            | none => rfl
            | some y => exact absurd ⟨y, he⟩ h3
          refine scanRows_err f a n c o r kd _ T G 24 w hn ho hr hnc hQ hK hTd (fun W k b bn s i f' g x hb hN => ?_) (fun W v hb hv => (hR W v hb hv).mono (rowErr_of hbad)) (by decide)
          refine (hF2 W k b bn s i f' g x hb hN).mono ?_
          rintro e w' (⟨hall, _⟩ | ⟨_, rfl, hb⟩)
          · obtain ⟨cc, hcc, h0⟩ := hbad
            obtain ⟨y, hy⟩ := hall cc hcc
            rw [h0] at hy; cases hy
          · exact ⟨rfl, hb⟩
  · refine scanRows_bad f a n c o r kd q T w hn ho hr hnc hQ (hkept.mono ?_)
    rintro e w' (⟨hall, _⟩ | ⟨_, h⟩)
    · rw [hall K hK] at hbad; cases hbad
    · exact h

theorem scanRows_any {w : World} {v : Value} {n : Nat} {F : Nat → Nat} (f : Int) (h : FRow w v n F) (o r kd : Int) (ht : TzTab w) :
    Calls Tryz.prog 3 #[.int .i64 f, v, .int .i64 o, .int .i64 r, .int .i64 kd] w fun e w' => e = .returned (.bool true) ∧ Below w.heap.size w w' := by
  obtain ⟨⟨a, c, rfl, hnc⟩, hv, hF⟩ := h
  by_cases hin : n ≤ 200 ∧ 0 ≤ o ∧ 0 ≤ r ∧ o ≤ 200 ∧ r ≤ 200
  · obtain ⟨h1, h2, h3, h4, h5⟩ := hin
    obtain ⟨o', rfl⟩ := Int.eq_ofNat_of_zero_le h2
    obtain ⟨r', rfl⟩ := Int.eq_ofNat_of_zero_le h3
    exact scanRows_in f a n c o' r' kd F w h1 (by omega) (by omega) hnc hv hF ht
  · exact scanRows_far f a n c o r kd w (by omega)
end Go.Proofs.YtdddmehchfnppaaGreatDoor
namespace Go.Proofs.YtdddmehchfnppaaGreatDoor
open Go Go.RowKit Go.Proofs Fl

set_option maxRecDepth 100000 in
set_option maxHeartbeats 1000000 in
theorem spacked_none (H : Nat → Prop) (q : Int) (hq1 : q ≠ 1) (v : Value) (n : Nat) (l : Nat → Bool) (O : Nat → Nat) (w : World) (hb : BitsIn w v 0 l) :
    Calls Tryz.prog 33 #[.int .i64 q, v, .int .i64 0, .int .i64 (n : Int)] w (Vec2R H w fun u W => NumW u 0 O W) := by
  have q1 : (q == 1) = false := by simpa using hq1
  have hmk := run_make_vecs 0 (by omega)
  rw [show ((0 : Nat) : Int) = 0 from rfl] at hmk
  have hmk := fun W => hmk W
  obtain ⟨b, o, c, rfl, _⟩ := hb
  have HB0 := Lib.hid (bel3 w (.cells #[.slice (some ⟨b, o, none⟩) ((0 + 63) / 64) c, .int .i64 ((0 : Nat) : Int)] 26) (.cells zcells 32) (.cells (madeCells zcells (0 * 8)) 32))
  have HK0 : Hid ((((w.alloc (.cells #[.slice (some ⟨b, o, none⟩) ((0 + 63) / 64) c, .int .i64 ((0 : Nat) : Int)] 26)).alloc (.cells zcells 32)).alloc (.cells (madeCells zcells (0 * 8)) 32)).heap[w.heap.size + 1]? = some (.cells zcells 32)) := by
    have h := block_up (w := w.alloc (.cells #[.slice (some ⟨b, o, none⟩) ((0 + 63) / 64) c, .int .i64 ((0 : Nat) : Int)] 26)) (bel1 ((w.alloc (.cells #[.slice (some ⟨b, o, none⟩) ((0 + 63) / 64) c, .int .i64 ((0 : Nat) : Int)] 26)).alloc (.cells zcells 32)) (.cells (madeCells zcells (0 * 8)) 32))
    rw [show (w.alloc (.cells #[.slice (some ⟨b, o, none⟩) ((0 + 63) / 64) c, .int .i64 ((0 : Nat) : Int)] 26)).heap.size = w.heap.size + 1 by simp] at h
    exact h
  clear hq1
  go_enter Tryz.func33, Tryz.ntmps33
  go_wp2_with fail
  generalize ((w.alloc (.cells #[.slice (some ⟨b, o, none⟩) ((0 + 63) / 64) c, .int .i64 ((0 : Nat) : Int)] 26)).alloc (.cells zcells 32)).alloc (.cells (madeCells zcells (0 * 8)) 32) = W1 at HB0 HK0 ⊢
  go_loopw [24] (fun j wr => j = .int .i64 0 ∧ wr = W1) (fun _ _ => 0)
  case atStart => exact ⟨rfl, rfl⟩
  case round =>
    obtain ⟨rfl, rfl⟩ := hrel
    go_wp2_with fail
    refine (join_none _ _ _).mono ?_
    rintro e w2 ⟨rfl, hb2⟩
    have HB2 := Lib.hid (bel_both HB0.out hb2)
    have HK2 := Lib.hid (show w2.heap[w.heap.size + 1]? = some (.cells zcells 32) by rw [hb2.block _ (lt_of_block HK0.out)]; exact HK0.out)
    clear hb2 HK0 HB0
    obtain ⟨⟨h0, h1, h2, h3, h4, h5, h6, h7⟩, hz⟩ := boxed_of HK2.out
    go_wp2
    refine bodyPost_ret (v := .tuple #[vecV 1 vnil 0 vnil vnil vnil vnil vnil, .bool true]) ?_ rfl ⟨1, (none, 0, 0), 0, (none, 0, 0), (none, 0, 0), (none, 0, 0), (none, 0, 0), (none, 0, 0), rfl, fun W' _ _ => ⟨class_1 _ _ _ _ _ _ _ W', len_1 _ _ _ _ _ _ _ W', fun _ hj => absurd hj (Nat.not_lt_zero _)⟩, below_set8 HB2.out (Nat.le_succ _) _ _ _ _ _ _ _ _⟩
    exact ret_vec2 (fn := Tryz.f33) (p := 8) (u := 9) rfl _ _ (w.heap.size + 1) (by rfl) (set8_block HK2.out _ _ _ _ _ _ _ _)

theorem spacked_zero (H : Nat → Prop) (q : Int) (v : Value) (n : Nat) (l : Nat → Bool) (O : Nat → Nat) (w : World) (hH : ∀ b, H b → b < w.heap.size) (hn : n ≤ 1000) (hb : BitsIn w v 0 l) :
    Calls Tryz.prog 33 #[.int .i64 q, v, .int .i64 0, .int .i64 (n : Int)] w (Vec2R H w fun u W => NumW u 0 O W) := by
  by_cases h1 : q = 1
  · subst h1
    refine (spacked_addV pwP H v 0 n 0 l (fun _ => 0) w hH (by simp) (by omega) hn (by omega) hb (fun j hj => absurd hj (Nat.not_lt_zero _))).mono ?_
    rintro e w' ⟨_, k, b, bn, s, i, f, c, x, rfl, hk, hb⟩
    exact ⟨k, b, bn, s, i, f, c, x, rfl, hk.imp fun W h => ⟨h.cls, h.len, fun _ hj => absurd hj (Nat.not_lt_zero _)⟩, hb⟩
  · exact spacked_none H q h1 v n l O w hb

set_option maxRecDepth 100000 in
set_option maxHeartbeats 1000000 in
theorem scan_zero (H : Nat → Prop) (q : Int) (hq : knownB q = true) (b : Sl) (bn : Int) (s i f c x : Sl) (n : Nat) (F O : Nat → Nat) (w : World) (hH : ∀ b, H b → b < w.heap.size)
    (hn : 2 ≤ n) (hb2 : n ≤ 1000) (hN : ∀ W, Below w.heap.size w W → NumV (vecW 1 b bn s i f c x) 1 0 F W) :
    Calls Tryz.prog 9 #[.int .i64 q, vecW 1 b bn s i f c x, .int .i64 0, .int .i64 (n : Int), .int .i64 1] w (AnyFold H 0 O 0 w) := by
  have HK := Lib.hid (fun W => hq ▸ known_any q W)
  have HS := Lib.hid (St.new w 1 (.slice b.1 b.2.1 b.2.2) bn (.slice s.1 s.2.1 s.2.2) (.slice i.1 i.2.1 i.2.2) (.slice f.1 f.2.1 f.2.2) (.slice c.1 c.2.1 c.2.2) (.slice x.1 x.2.1 x.2.2))
  have HC := Lib.hid (fun W (hw : Below w.heap.size w W) => (hN W hw).cls)
  have n1 : ¬ (n : Int) < 0 := by omega
  have n2 : ¬ (n : Int) ≤ 1 := by omega
  have HPK := Lib.hid (fun W => packed_yes b bn (.slice s.1 s.2.1 s.2.2) (.slice i.1 i.2.1 i.2.2) (.slice f.1 f.2.1 f.2.2) (.slice c.1 c.2.1 c.2.2) (.slice x.1 x.2.1 x.2.2) W)
  have HPD : Hid (∀ W, Below w.heap.size w W → Calls Tryz.prog 33 #[.int .i64 q, .agg #[.slice b.1 b.2.1 b.2.2, .int .i64 bn], .int .i64 0, .int .i64 (n : Int)] W (Vec2R (Hole H w W) W fun u W => NumW u 0 O W)) := by
    intro W hw
    obtain ⟨rfl, L, hbits, hf⟩ := (hN W hw).bits
    exact spacked_zero (Hole H w W) q _ n L O W (hole_lt hH hw) hb2 hbits.in
  unfold Vec2R at HPD
  clear hq hN hH hn
  go_enter Tryz.func9, Tryz.ntmps9
  go_wp2_with fail
  refine (HK.out _).mono ?_
  rintro e w1 ⟨rfl, hw⟩
  rw [hw] at HS
  clear hw
  obtain ⟨h0, h1, h2, h3, h4, h5, h6, h7⟩ := HS.out.box
  go_wp2_with fail
  refine (HC.out _ HS.out.bel).mono ?_
  rintro e w2 ⟨rfl, hb2⟩
  have HS2 := Lib.hid (HS.out.step hb2)
  clear hb2 h0 h1 h2 h3 h4 h5 h6 h7 HS
  obtain ⟨h0, h1, h2, h3, h4, h5, h6, h7⟩ := HS2.out.box
  go_wp2_with fail
  refine (HPK.out _).mono ?_
  rintro e w3 ⟨rfl, hb3⟩
  have HS3 := Lib.hid ((HS2.out.step hb3).step (bel1 w3 (.cells #[.slice b.1 b.2.1 b.2.2, .int .i64 bn] 26)))
  have z3 : w.heap.size < w3.heap.size := (HS2.out.step hb3).box.lt
  have z3' : w.heap.size + 1 < w3.heap.size := (HS2.out.step hb3).sz
  clear hb3 h0 h1 h2 h3 h4 h5 h6 h7 HS2
  have HPD3 := Lib.hid (HPD.out _ HS3.out.bel)
  go_wp2_with fail
  refine HPD3.out.mono ?_
  rintro e w4 ⟨k5, b5, bn5, s5, i5, f5, c5, x5, rfl, hk5, hb5⟩
  have HS5 := Lib.hid (HS3.out.step hb5)
  have HSZ := HS3.out.sz
  have HK5 := Lib.hid (hk5.sub (H' := fun j => H j ∨ j = w.heap.size + 1) fun j _ e => e.imp id fun e => by have := HSZ; omega)
  clear hb5 hk5 HSZ
  have z5 : w.heap.size < w4.heap.size := HS5.out.box.lt
  have z5' : w.heap.size + 1 < w4.heap.size := HS5.out.sz
  have HKE := Lib.hid ((HK5.out.set8 (.inr rfl) (.int .i64 k5) (.slice b5.1 b5.2.1 b5.2.2) (.int .i64 bn5) (.slice s5.1 s5.2.1 s5.2.2) (.slice i5.1 i5.2.1 i5.2.2) (.slice f5.1 f5.2.1 f5.2.2) (.slice c5.1 c5.2.1 c5.2.2) (.slice x5.1 x5.2.1 x5.2.2)).sub (H' := H) fun _ _ e => .inl e)
  have HBE := Lib.hid (below_set8 HS5.out.bel (Nat.le_succ _) (.int .i64 k5) (.slice b5.1 b5.2.1 b5.2.2) (.int .i64 bn5) (.slice s5.1 s5.2.1 s5.2.2) (.slice i5.1 i5.2.1 i5.2.2) (.slice f5.1 f5.2.1 f5.2.2) (.slice c5.1 c5.2.1 c5.2.2) (.slice x5.1 x5.2.1 x5.2.2))
  have HRE := Lib.hid (set8_block HS5.out.res (.int .i64 k5) (.slice b5.1 b5.2.1 b5.2.2) (.int .i64 bn5) (.slice s5.1 s5.2.1 s5.2.2) (.slice i5.1 i5.2.1 i5.2.2) (.slice f5.1 f5.2.1 f5.2.2) (.slice c5.1 c5.2.1 c5.2.2) (.slice x5.1 x5.2.1 x5.2.2))
  obtain ⟨⟨h0, h1, h2, h3, h4, h5, h6, h7⟩, hz⟩ := boxed_of HS5.out.res
  go_wp2
  refine bodyPost_ret (v := .tuple #[vecW k5 b5 bn5 s5 i5 f5 c5 x5, .int .i64 0]) ?_ rfl ⟨k5, b5, bn5, s5, i5, f5, c5, x5, rfl, HKE.out.step (bel1 _ _), bel_both HBE.out (bel1 _ _)⟩
  exact ret_vec2 (fn := Tryz.f9) (p := 10) (u := 11) rfl _ _ (w.heap.size + 1) (by rfl) ((Below.heap_alloc _ _ _ (lt_of_block HRE.out)).trans HRE.out)
end Go.Proofs.YtdddmehchfnppaaGreatDoor
namespace Go.Proofs.YtdddmehchfnppaaGreatDoor
open Go Go.RowKit Go.Proofs Fl

/-- what both tell: a trouble, or the same numbers -/
theorem fold_prog (f : Int) (T o n r : Nat) (G : Nat → Nat) (w : World) (hT : T = o * n * r) (ho : o ≤ 1000) (hn : n ≤ 1000) (hr : r ≤ 1000) (hbT : T ≤ 1000000) (hN1 : o * r ≤ 1000000) (hG : ∀ j, j < T → TF (G j)) (ht : TzTab w) :
    (∃ E : Int, E ≠ 0 ∧ (∀ (W : World) (H : Nat → Prop) k b bn s i f' g x, Below w.heap.size w W → (∀ b, H b → b < W.heap.size) → (2 ≤ n → k = 3 → 0 < T) → Keeps H W (NumV (vecW k b bn s i f' g x) k T G) → Calls Tryz.prog 27 #[.int .i64 f, vecW k b bn s i f' g x, .int .i64 (o : Int), .int .i64 (n : Int), .int .i64 (r : Int)] W (FoldErr E W))) ∨
    (∃ O, (∀ j, j < o * r → TF (O j)) ∧ (∀ (W : World) (H : Nat → Prop) k b bn s i f' g x, Below w.heap.size w W → (∀ b, H b → b < W.heap.size) → (2 ≤ n → k = 3 → 0 < T) → Keeps H W (NumV (vecW k b bn s i f' g x) k T G) → Calls Tryz.prog 27 #[.int .i64 f, vecW k b bn s i f' g x, .int .i64 (o : Int), .int .i64 (n : Int), .int .i64 (r : Int)] W (FoldOkH H (n = 1) (o * r) O W))) := by
  cases hkn : knownB f with
  | false =>
    exact .inl ⟨1, by decide, fun W H k b bn s i f' g x hb hH _ hN => fold_unknown f hkn _ _ _ _ _ _ _ _ _ _ _ W⟩
  | true =>
    by_cases hq0 : n = 0
    · subst hq0
      have hT0 : T = 0 := by rw [hT]; simp
      cases hs : startF f with
      | none =>
        refine .inl ⟨24, by decide, fun W H k b bn s i f' g x hb hH _ hN => ?_⟩
        refine (fold_none H f hkn k b bn s i f' g x T o r G W hH ho hr hN1 (fun W' h => numX_of (hN.step h).now)).mono ?_
        rw [hs]
        rintro e w' (⟨x, h, _⟩ | ⟨_, rfl, hb⟩)
        · cases h
        · exact ⟨rfl, hb⟩
      | some x =>
        refine .inr ⟨fun _ => x, fun _ _ => startF_tf hs, fun W H k b bn s i f' g x' hb hH _ hN => ?_⟩
        · refine (fold_none H f hkn k b bn s i f' g x' T o r G W hH ho hr hN1 (fun W' h => numX_of (hN.step h).now)).mono ?_
          rw [hs]
          rintro e w' (⟨y, h, hv⟩ | ⟨h, _⟩)
          · injection h with h
            subst h
            exact vecOk_foldH e w' hv
          · cases h
    · by_cases hq1 : n = 1
      · subst hq1
        have hTor : T = o * r := by rw [hT, Nat.mul_one]
        refine .inr ⟨G, fun j hj => hG j (by omega), fun W H k b bn s i f' g x hb hH _ hN => ?_⟩
        · refine (fold_one f hkn k b bn s i f' g x T o r G W (fun W' h => numX_of (hN.step h).now)).mono ?_
          rintro e w' ⟨rfl, hb⟩
          rw [← hTor]
          exact ⟨k, b, bn, s, i, f', g, x, rfl, hN.step hb, .inl rfl, hb⟩
      · have hF2 : ∀ (W : World) (H : Nat → Prop) (k : Int) (b : Sl) (bn : Int) (s i f' g x : Sl), Below w.heap.size w W → (∀ b, H b → b < W.heap.size) → (2 ≤ n → k = 3 → 0 < T) → Keeps H W (NumV (vecW k b bn s i f' g x) k T G) → Calls Tryz.prog 27 #[.int .i64 f, vecW k b bn s i f' g x, .int .i64 (o : Int), .int .i64 (n : Int), .int .i64 (r : Int)] W (FlOut H W (oneP pwP f) G n r (o * r)) := by
          intro W H k b bn s i f' g x hb hH h3 hN
          exact fold_two powIs H f hkn k b bn s i f' g x T o n r G W hH hT (by omega) ho hn hr hbT hN1 (h3 (by omega)) (fun W' h => numX_of (hN.step h).now) (ht.below hb)
        by_cases hyes : ∀ cc, cc < o * r → ∃ y, rowsR (oneP pwP f) G n r cc = some y
        · have hrow : ∀ cc, cc < o * r → rowsR (oneP pwP f) G n r cc = some (outF (oneP pwP f) G n r cc) := by
            intro cc hcc
            obtain ⟨y, hy⟩ := hyes cc hcc
            rw [outF_some hy]; exact hy
          refine .inr ⟨outF (oneP pwP f) G n r, fun cc hcc => ?_, fun W H k b bn s i f' g x hb hH h3 hN => ?_⟩
          · have h1 := hrow cc hcc
            refine stepsR_tf powIs (n := n) (x := lineF G n r (cc / r) (cc % r)) (by omega) (fun i hi => hG _ ?_) (n - 1) (Nat.le_refl _) _ h1
            rw [hT]
            have r0 : 0 < r := by
              rcases Nat.eq_zero_or_pos r with e | e
              · subst e; simp at hcc
              · exact e
            have c1 : cc / r < o := Nat.div_lt_of_lt_mul (by rw [Nat.mul_comm]; exact hcc)
            have c2 : cc % r < r := Nat.mod_lt _ r0
            have h1 : cc / r * n + i + 1 ≤ o * n := by
              have : (cc / r + 1) * n ≤ o * n := Nat.mul_le_mul_right _ c1
              rw [Nat.add_mul] at this
              omega
            have h2 : (cc / r * n + i + 1) * r ≤ o * n * r := Nat.mul_le_mul_right _ h1
            rw [Nat.add_mul, Nat.add_mul] at h2
            omega
          · refine (hF2 W H k b bn s i f' g x hb hH h3 hN).mono ?_
            rintro e w' (⟨_, hv⟩ | ⟨⟨cc, hcc, h0⟩, _⟩)
            · exact vecOk_foldH e w' hv
            · rw [hrow cc hcc] at h0; cases h0
        · have hbad : ∃ cc, cc < o * r ∧ rowsR (oneP pwP f) G n r cc = none := by
            obtain ⟨cc, h1⟩ := Classical.not_forall.1 hyes
            obtain ⟨h2, h3⟩ := Classical.not_imp.1 h1
            refine ⟨cc, h2, ?_⟩
            cases he : rowsR (oneP pwP f) G n r cc with
            | none => rfl
            | some y => exact absurd ⟨y, he⟩ h3
          refine .inl ⟨24, by decide, fun W H k b bn s i f' g x hb hH h3 hN => ?_⟩
          refine (hF2 W H k b bn s i f' g x hb hH h3 hN).mono ?_
          rintro e w' (⟨hall, _⟩ | ⟨_, rfl, hb⟩)
          · obtain ⟨cc, hcc, h0⟩ := hbad
            obtain ⟨y, hy⟩ := hall cc hcc
            rw [h0] at hy; cases hy
          · exact ⟨rfl, hb⟩
theorem fold_psame (f : Int) (T o n r : Nat) (G : Nat → Nat) (w : World) (hT : T = o * n * r) (ho : o ≤ 1000) (hn : n ≤ 1000) (hr : r ≤ 1000) (hbT : T ≤ 1000000) (hN1 : o * r ≤ 1000000) (hG : ∀ j, j < T → TF (G j)) (ht : TzTab w) :
    ∃ (N : Nat) (O : Nat → Nat) (E : Int), (∀ (W : World) (H : Nat → Prop) k b bn s i f' g x, Below w.heap.size w W → (∀ b, H b → b < W.heap.size) → (2 ≤ n → k = 3 → 0 < T) → Keeps H W (NumV (vecW k b bn s i f' g x) k T G) → Calls Tryz.prog 27 #[.int .i64 f, vecW k b bn s i f' g x, .int .i64 (o : Int), .int .i64 (n : Int), .int .i64 (r : Int)] W (AnyFold H N O E W)) := by
  rcases fold_prog f T o n r G w hT ho hn hr hbT hN1 hG ht with ⟨E, _, h1⟩ | ⟨O, h0, h1⟩
  · exact ⟨0, fun _ => 0, E, fun W H k b bn s i f' g x hb hH h3 hN => (h1 W H k b bn s i f' g x hb hH h3 hN).mono foldErr_any⟩
  · exact ⟨o * r, O, 0, fun W H k b bn s i f' g x hb hH h3 hN => (h1 W H k b bn s i f' g x hb hH h3 hN).mono foldOk_any⟩
end Go.Proofs.YtdddmehchfnppaaGreatDoor
namespace Go.Proofs.YtdddmehchfnppaaGreatDoor
open Go Go.RowKit Go.Proofs Fl

theorem vecOk_any {H : Nat → Prop} {N : Nat} {G : Nat → Nat} {k : Nat} {w : World} (e : Ending) (w' : World) (h : VecOk H w (fun u W => NumV u k N G W) e w') : AnyFold H N G 0 w e w' := by
  obtain ⟨k, b, bn, s, i, f, c, x, rfl, hk, hb⟩ := h
  exact ⟨k, b, bn, s, i, f, c, x, rfl, hk.imp fun W' h => h.numW, hb⟩
theorem AnyFold.congr {H : Nat → Prop} {N : Nat} {G G' : Nat → Nat} {E : Int} {w : World} (hG : ∀ j, j < N → G' j = G j) {e : Ending} {w' : World} (h : AnyFold H N G E w e w') : AnyFold H N G' E w e w' := by
  obtain ⟨k, b, bn, s, i, f, c, x, rfl, hk, hb⟩ := h
  exact ⟨k, b, bn, s, i, f, c, x, rfl, hk.imp fun W' h => ⟨h.cls, h.len, fun j hj => by rw [hG j hj]; exact h.num j hj⟩, hb⟩

/-- what the scans of rows of n tell: a trouble, or the same numbers -/
theorem scan_gen (f : Int) (T o n : Nat) (G : Nat → Nat) (w : World) (hT : T = o * n) (ho : o ≤ 1000) (hn : n ≤ 1000) (hG : ∀ j, j < T → TF (G j)) (ht : TzTab w) :
    (∃ E : Int, (E = 1 ∨ E = 24) ∧ (∀ (W : World) (H : Nat → Prop) k b bn s i f' g x, Below w.heap.size w W → (∀ b, H b → b < W.heap.size) → (2 ≤ n → k = 3 → 0 < T) → Keeps H W (NumV (vecW k b bn s i f' g x) k T G) → Calls Tryz.prog 9 #[.int .i64 f, vecW k b bn s i f' g x, .int .i64 (o : Int), .int .i64 (n : Int), .int .i64 1] W (FoldErr E W)) ∧
      (∀ W v, Below w.heap.size w W → Reads1 W v ((List.range T).map fun j => .float .f64 (G j)) → Calls Tryz.prog 10 #[.int .i64 f, v, .int .i64 (o : Int), .int .i64 (n : Int), .int .i64 1] W (RowErr E W))) ∨
    (knownB f = true ∧ ∃ O, (∀ j, j < T → TF (O j)) ∧ (∀ j, j < T → scanR (oneP pwP f) G n 1 j = some (O j)) ∧ (∀ (W : World) (H : Nat → Prop) k b bn s i f' g x, Below w.heap.size w W → (∀ b, H b → b < W.heap.size) → (2 ≤ n → k = 3 → 0 < T) → Keeps H W (NumV (vecW k b bn s i f' g x) k T G) → Calls Tryz.prog 9 #[.int .i64 f, vecW k b bn s i f' g x, .int .i64 (o : Int), .int .i64 (n : Int), .int .i64 1] W (AnyFold H T O 0 W)) ∧
      (∀ W v, Below w.heap.size w W → Reads1 W v ((List.range T).map fun j => .float .f64 (G j)) → Calls Tryz.prog 10 #[.int .i64 f, v, .int .i64 (o : Int), .int .i64 (n : Int), .int .i64 1] W (RowOk T O W))) := by
  have hbT : T ≤ 1000000 := by rw [hT]; exact Nat.mul_le_mul ho hn
  have hT1 : T = o * n * 1 := by rw [hT, Nat.mul_one]
  cases hkn : knownB f with
  | false =>
    exact .inl ⟨1, .inl rfl, fun W H k b bn s i f' g x hb hH _ hN => scan_unknown f hkn _ _ _ _ _ _ _ _ _ _ _ W, fun W v hb hv => rscan_unknown f hkn _ _ _ _ W⟩
  | true =>
    have hR : ∀ W v, Below w.heap.size w W → Reads1 W v ((List.range T).map fun j => .float .f64 (G j)) → Calls Tryz.prog 10 #[.int .i64 f, v, .int .i64 (o : Int), .int .i64 (n : Int), .int .i64 1] W (RfOut T (scanR (oneP pwP f) G n 1) W) :=
      fun W v hb hv => rscan_any powIs f hkn v T o n 1 G W hT1 ho hn (by omega) hbT hv hG
    by_cases hn1 : n ≤ 1
    · have hrow : ∀ cc, cc < T → scanR (oneP pwP f) G n 1 cc = some (G cc) := by
        intro cc hcc
        obtain rfl : n = 1 := by
          rcases Nat.eq_zero_or_pos n with e | e
          · rw [hT, e] at hcc; simp at hcc
          · omega
        exact scanR_one _ G o 1 cc (by rw [← hT1]; exact hcc)
      refine .inr ⟨rfl, G, hG, hrow, fun W H k b bn s i f' g x hb hH _ hN => ?_, fun W v hb hv => (hR W v hb hv).mono (rowOk_of hrow)⟩
      refine (scan_few f hkn k b bn s i f' g x o n 1 hn1 W (fun W' h => (hN.step h).now.cls)).mono ?_
      rintro e w' ⟨rfl, hb⟩
      exact ⟨k, b, bn, s, i, f', g, x, rfl, (hN.step hb).imp fun W' h => h.numW, hb⟩
    · by_cases ho0 : o = 0
      · subst ho0
        obtain rfl : T = 0 := by rw [hT]; simp
        refine .inr ⟨rfl, G, fun j hj => absurd hj (Nat.not_lt_zero _), fun j hj => absurd hj (Nat.not_lt_zero _), fun W H k b bn s i f' g x hb hH h3 hN => ?_, fun W v hb hv => (hR W v hb hv).mono (rowOk_of fun j hj => absurd hj (Nat.not_lt_zero _))⟩
        by_cases hk1 : k = 1
        · subst hk1
          exact scan_zero H f hkn b bn s i f' g x n G G W hH (by omega) hn (fun W' h => (hN.step h).now)
        · refine (scan_two powIs H f hkn k b bn s i f' g x 0 0 n 1 G W hH hT1 (by omega) (by omega) hn (by omega) (by omega) (h3 (by omega)) (fun W' h => numX_of (hN.step h).now) (fun h => absurd h hk1)).mono ?_
          rintro e w' (⟨_, hv⟩ | ⟨⟨cc, hcc, h0⟩, _⟩)
          · exact (vecOk_any e w' hv).congr fun j hj => absurd hj (Nat.not_lt_zero _)
          · exact absurd hcc (Nat.not_lt_zero _)
      · have hF2 : ∀ (W : World) (H : Nat → Prop) (k : Int) (b : Sl) (bn : Int) (s i f' g x : Sl), Below w.heap.size w W → (∀ b, H b → b < W.heap.size) → Keeps H W (NumV (vecW k b bn s i f' g x) k T G) → Calls Tryz.prog 9 #[.int .i64 f, vecW k b bn s i f' g x, .int .i64 (o : Int), .int .i64 (n : Int), .int .i64 1] W (SlOut H W (scanR (oneP pwP f) G n 1) T) := by
          intro W H k b bn s i f' g x hb hH hN
          have hT0 : 0 < T := by rw [hT]; exact Nat.mul_pos (by omega) (by omega)
          refine scan_two powIs H f hkn k b bn s i f' g x T o n 1 G W hH hT1 (by omega) ho hn (by omega) hbT (fun _ => hT0) (fun W' h => numX_of (hN.step h).now) ?_
          rintro rfl _ W' hw
          obtain ⟨rfl, L, hbits, hf⟩ := (hN.step hw).now.bits
          exact spacked_any pwP (Hole H W W') f _ o n T L G W' (hole_lt hH hw) hT (by omega) (by omega) ho hn hbits.in (fun j hj => by rw [hf j hj, flagF_bI]) (ht.below (bel_both hb hw))
        by_cases hyes : ∀ cc, cc < T → ∃ y, scanR (oneP pwP f) G n 1 cc = some y
        · have hrow : ∀ cc, cc < T → scanR (oneP pwP f) G n 1 cc = some (getR (scanR (oneP pwP f) G n 1) cc) := by
            intro cc hcc
            obtain ⟨y, hy⟩ := hyes cc hcc
            unfold getR
            rw [hy]; rfl
          refine .inr ⟨rfl, getR (scanR (oneP pwP f) G n 1), fun cc hcc => scanR_tf f G o n 1 T hT1 hG cc _ hcc (hrow cc hcc), hrow, fun W H k b bn s i f' g x hb hH h3 hN => ?_, fun W v hb hv => (hR W v hb hv).mono (rowOk_of hrow)⟩
          refine (hF2 W H k b bn s i f' g x hb hH hN).mono ?_
          rintro e w' (⟨_, hv⟩ | ⟨⟨cc, hcc, h0⟩, _⟩)
          · exact vecOk_any e w' hv
          · rw [hrow cc hcc] at h0; cases h0
        · have hbad : ∃ cc, cc < T ∧ scanR (oneP pwP f) G n 1 cc = none := by
            obtain ⟨cc, h1⟩ := Classical.not_forall.1 hyes
            obtain ⟨h2, h3⟩ := Classical.not_imp.1 h1
            refine ⟨cc, h2, ?_⟩
            cases he : scanR (oneP pwP f) G n 1 cc with
            | none => rfl
            | some y => exact absurd ⟨y, he⟩ h3
          refine .inl ⟨24, .inr rfl, fun W H k b bn s i f' g x hb hH _ hN => ?_, fun W v hb hv => (hR W v hb hv).mono (rowErr_of hbad)⟩
          refine (hF2 W H k b bn s i f' g x hb hH hN).mono ?_
          rintro e w' (⟨hall, _⟩ | ⟨_, rfl, hb⟩)
          · obtain ⟨cc, hcc, h0⟩ := hbad
            obtain ⟨y, hy⟩ := hall cc hcc
            rw [h0] at hy; cases hy
          · exact ⟨rfl, hb⟩

/-- both scans tell the same -/
theorem scan_same (f : Int) (T o n : Nat) (G : Nat → Nat) (w : World) (hT : T = o * n) (ho : o ≤ 1000) (hn : n ≤ 1000) (hG : ∀ j, j < T → TF (G j)) (ht : TzTab w) :
    ∃ (N : Nat) (O : Nat → Nat) (E : Int), N ≤ 1000000 ∧ (∀ j, j < N → TF (O j)) ∧ (∀ (W : World) (H : Nat → Prop) k b bn s i f' g x, Below w.heap.size w W → (∀ b, H b → b < W.heap.size) → (2 ≤ n → k = 3 → 0 < T) → Keeps H W (NumV (vecW k b bn s i f' g x) k T G) → Calls Tryz.prog 9 #[.int .i64 f, vecW k b bn s i f' g x, .int .i64 (o : Int), .int .i64 (n : Int), .int .i64 1] W (AnyFold H N O E W)) ∧
      (∀ W v, Below w.heap.size w W → Reads1 W v ((List.range T).map fun j => .float .f64 (G j)) → Calls Tryz.prog 10 #[.int .i64 f, v, .int .i64 (o : Int), .int .i64 (n : Int), .int .i64 1] W (AnyRow N O E W)) := by
  rcases scan_gen f T o n G w hT ho hn hG ht with ⟨E, _, h1, h2⟩ | ⟨_, O, h0, _, h1, h2⟩
  · exact ⟨0, fun _ => 0, E, by omega, fun j hj => absurd hj (Nat.not_lt_zero _), fun W H k b bn s i f' g x hb hH h3 hN => (h1 W H k b bn s i f' g x hb hH h3 hN).mono foldErr_any, fun W v hb hv => (h2 W v hb hv).mono rowErr_any⟩
  · exact ⟨T, O, 0, by rw [hT]; exact Nat.mul_le_mul ho hn, h0, h1, fun W v hb hv => (h2 W v hb hv).mono rowOk_any⟩

/-- one row: both scans tell the same, and, where that goes, its last number is what fold.Fold tells -/
theorem scan_fold (f : Int) (n : Nat) (G : Nat → Nat) (w : World) (hn : n ≤ 1000) (hG : ∀ j, j < n → TF (G j)) (ht : TzTab w) :
    ∃ (N : Nat) (O : Nat → Nat) (E : Int) (N3 : Nat) (O3 : Nat → Nat) (E3 : Int), N ≤ 1000000 ∧ (∀ j, j < N → TF (O j)) ∧ (∀ (W : World) (H : Nat → Prop) k b bn s i f' g x, Below w.heap.size w W → (∀ b, H b → b < W.heap.size) → (2 ≤ n → k = 3 → 0 < n) → Keeps H W (NumV (vecW k b bn s i f' g x) k n G) → Calls Tryz.prog 9 #[.int .i64 f, vecW k b bn s i f' g x, .int .i64 1, .int .i64 (n : Int), .int .i64 1] W (AnyFold H N O E W)) ∧
      (∀ W v, Below w.heap.size w W → Reads1 W v ((List.range n).map fun j => .float .f64 (G j)) → Calls Tryz.prog 10 #[.int .i64 f, v, .int .i64 1, .int .i64 (n : Int), .int .i64 1] W (AnyRow N O E W)) ∧
      (∀ (W : World) (H : Nat → Prop) k b bn s i f' g x, Below w.heap.size w W → (∀ b, H b → b < W.heap.size) → (2 ≤ n → k = 3 → 0 < n) → Keeps H W (NumV (vecW k b bn s i f' g x) k n G) → Calls Tryz.prog 27 #[.int .i64 f, vecW k b bn s i f' g x, .int .i64 1, .int .i64 (n : Int), .int .i64 1] W (AnyFold H N3 O3 E3 W)) ∧
      (n = 0 ∨ (E = 1 ∨ E = 24) ∨ (E = 0 ∧ E3 = 0 ∧ N = n ∧ N3 = 1 ∧ O3 0 = O (n - 1))) := by
  obtain ⟨N3, O3, E3, f3⟩ := fold_psame f n 1 n 1 G w (by omega) (by omega) hn (by omega) (by omega) (by omega) hG ht
  rcases scan_gen f n 1 n G w (by omega) (by omega) hn hG ht with ⟨E, hE, h1, h2⟩ | ⟨hkn, O, h0, hrow, h1, h2⟩
  · exact ⟨0, fun _ => 0, E, N3, O3, E3, by omega, fun j hj => absurd hj (Nat.not_lt_zero _), fun W H k b bn s i f' g x hb hH h3 hN => (h1 W H k b bn s i f' g x hb hH h3 hN).mono foldErr_any, fun W v hb hv => (h2 W v hb hv).mono rowErr_any, f3, .inr (.inl hE)⟩
  · by_cases hn0 : n = 0
    · exact ⟨n, O, 0, N3, O3, E3, by omega, h0, h1, fun W v hb hv => (h2 W v hb hv).mono rowOk_any, f3, .inl hn0⟩
    · have hlast : rowsR (oneP pwP f) G n 1 0 = some (O (n - 1)) := by
        have h := hrow (n - 1) (by omega)
        have h5 := scanR_at (g := oneP pwP f) (F := G) (n := n) (inner := 1) (o := 0) (k := 0) (i := n - 1) (by decide) (by omega)
        rw [Nat.zero_mul, Nat.zero_mul, Nat.zero_add, Nat.mul_one, h, show n - 1 + 1 = n by omega] at h5
        rw [h5]; rfl
      refine ⟨n, O, 0, 1, fun _ => O (n - 1), 0, by omega, h0, h1, fun W v hb hv => (h2 W v hb hv).mono rowOk_any, fun W H k b bn s i f' g x hb hH h3 hN => ?_, .inr (.inr ⟨rfl, rfl, rfl, rfl, rfl⟩)⟩
      by_cases hn1 : n = 1
      · subst hn1
        have hO : G 0 = O 0 := by
          have h := hrow 0 (by omega)
          rw [scanR_one _ G 1 1 0 (by omega)] at h
          injection h
        refine (fold_one f hkn k b bn s i f' g x 1 1 1 G W (fun W' h => numX_of (hN.step h).now)).mono ?_
        rintro e w' ⟨rfl, hb⟩
        refine ⟨k, b, bn, s, i, f', g, x, rfl, (hN.step hb).imp fun W' h => ⟨h.cls, h.len, fun j hj => ?_⟩, hb⟩
        obtain rfl : j = 0 := by omega
        show Calls _ _ _ _ fun e w2 => e = .returned (.float .f64 (O 0)) ∧ _
        rw [← hO]
        exact h.num 0 hj
      · refine (fold_two powIs H f hkn k b bn s i f' g x n 1 n 1 G W hH (by omega) (by omega) (by omega) hn (by omega) (by omega) (by omega) (h3 (by omega)) (fun W' h => numX_of (hN.step h).now) (ht.below hb)).mono ?_
        rintro e w' (⟨_, hv⟩ | ⟨⟨cc, hcc, h9⟩, _⟩)
        · refine (vecOk_any e w' hv).congr fun j hj => ?_
          obtain rfl : j = 0 := by omega
          rw [outF_some hlast]
        · obtain rfl : cc = 0 := by omega
          rw [hlast] at h9; cases h9
end Go.Proofs.YtdddmehchfnppaaGreatDoor
