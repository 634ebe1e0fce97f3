/- Merged texts. Functions of two numbers that don't mind which comes first; and so for arrays: plain law. Conditions: as each theorem says. The walk of the law PervadeTurns. Conditions: as the theorem says. -/
import Derived.Test.YtiahegjdkejjpaaGreatMg16
import Derived.Test.YtiahegjdkejjpaaGreatMg35
import Derived.Test.YtiahegjdkejjpaaGreatMg36
import Derived.Deep.RegionWith
namespace Go.Proofs.YtiahegjdkejjpaaGreat
open Go Go.RowKit Go.Proofs Fl

theorem sum_comm (x y : Ieee.Datum) : x.sum y = y.sum x := by
  cases x with
  | nan s a => cases y <;> rfl
  | infinity s =>
    cases y with
    | nan t b => rfl
    | infinity t =>
      show (if s = t then some (Ieee.Datum.infinity s) else none) = (if t = s then some (Ieee.Datum.infinity t) else none)
      by_cases h : s = t
      · subst h; rfl
      · rw [if_neg h, if_neg (fun e => h e.symm)]
    | number t n j => rfl
  | number s m i =>
    cases y with
    | nan t b => rfl
    | infinity t => rfl
    | number t n j =>
      simp only [Ieee.Datum.sum]
      rw [Int.min_comm j i, Int.add_comm (Ieee.signed t n _), Bool.and_comm t s]
theorem product_comm (x y : Ieee.Datum) : x.product y = y.product x := by
  cases x with
  | nan s a => cases y <;> rfl
  | infinity s =>
    cases y with
    | nan t b => rfl
    | infinity t =>
      show some (Ieee.Datum.infinity (s ^^ t)) = some (Ieee.Datum.infinity (t ^^ s))
      rw [Bool.xor_comm]
    | number t n j => rfl
  | number s m i =>
    cases y with
    | nan t b => rfl
    | infinity t => rfl
    | number t n j =>
      show some (Ieee.Datum.number (s ^^ t) (m * n) (i + j)) = some (Ieee.Datum.number (t ^^ s) (n * m) (j + i))
      rw [Bool.xor_comm, Nat.mul_comm, Int.add_comm]
theorem dadd_comm (a b : Nat) : Ieee.double.add a b = Ieee.double.add b a := by
  unfold Ieee.Format.add
  rw [sum_comm]
theorem dmul_comm (a b : Nat) : Ieee.double.mul a b = Ieee.double.mul b a := by
  unfold Ieee.Format.mul
  rw [product_comm]
theorem opB_add_comm (a b : Nat) : opB .add a b = opB .add b a := by
  show (Ieee.double.add a b).getD 0 = (Ieee.double.add b a).getD 0
  rw [dadd_comm]
theorem opB_mul_comm (a b : Nat) : opB .mul a b = opB .mul b a := by
  show (Ieee.double.mul a b).getD 0 = (Ieee.double.mul b a).getD 0
  rw [dmul_comm]
/-- the functions that don't mind which number comes first -/
def TurnF (f : Int) : Prop := f = 1 ∨ f = 3 ∨ f = 5 ∨ f = 6 ∨ f = 13 ∨ f = 16 ∨ f = 21 ∨ f = 22 ∨ f = 23 ∨ f = 24
theorem maxP_comm {a b : Nat} (ha : TF a) (hb : TF b) : maxP a b = maxP b a := by
  unfold maxP
  have h := cmpF_swap ha hb
  have e := @tf_eq a b ha hb
  rw [h]
  cases hc : cmpF a b <;> simp [Ordering.swap]
  exact e.1 hc
theorem minP_comm {a b : Nat} (ha : TF a) (hb : TF b) : minP a b = minP b a := by
  unfold minP
  have h := cmpF_swap ha hb
  have e := @tf_eq a b ha hb
  rw [h]
  cases hc : cmpF a b <;> simp [Ordering.swap]
  exact e.1 hc
theorem logB_comm (f : Int) (x y : Bool) : logB f x y = logB f y x := by
  unfold logB
  rw [Bool.and_comm y x, Bool.or_comm y x]
theorem logP_comm (f : Int) (a b : Nat) : logP f a b = logP f b a := by
  unfold logP
  rw [logB_comm f (tv b) (tv a), Bool.and_comm (isT b) (isT a)]
theorem oneP_comm {f : Int} (hf : TurnF f) {a b : Nat} (ha : TF a) (hb : TF b) : oneP pwP f a b = oneP pwP f b a := by
  have h := cmpF_swap ha hb
  rcases hf with rfl | rfl | rfl | rfl | rfl | rfl | rfl | rfl | rfl | rfl
  · show doneP (opB .add a b) = doneP (opB .add b a)
    rw [opB_add_comm]
  · show doneP (opB .mul a b) = doneP (opB .mul b a)
    rw [opB_mul_comm]
  · show (maxP a b, (0 : Int)) = (maxP b a, 0)
    rw [maxP_comm ha hb]
  · show (minP a b, (0 : Int)) = (minP b a, 0)
    rw [minP_comm ha hb]
  · show (flagF (cmpF a b == .eq), (0 : Int)) = (flagF (cmpF b a == .eq), 0)
    rw [h]
    cases cmpF a b <;> rfl
  · show (flagF (cmpF a b != .eq), (0 : Int)) = (flagF (cmpF b a != .eq), 0)
    rw [h]
    cases cmpF a b <;> rfl
  · exact logP_comm 21 a b
  · exact logP_comm 22 a b
  · exact logP_comm 23 a b
  · exact logP_comm 24 a b

theorem prod_ones : ∀ (s : List Nat), prodN s = 1 → s = List.replicate s.length 1
  | [], _ => rfl
  | d :: s, h => by
    have h' : d * prodN s = 1 := h
    have hd : d = 1 := Nat.eq_one_of_mul_eq_one_right h'
    have hs : prodN s = 1 := Nat.eq_one_of_mul_eq_one_left h'
    rw [List.length_cons, List.replicate_succ, ← prod_ones s hs, hd]
theorem frameE_comm {a b : PA} {d e : Nat} (ha : GoodA d a) (hb : GoodA e b) : frameE a b = frameE b a := by
  have h1 := ha.sh.2.2.2
  have h2 := hb.sh.2.2.2
  unfold frameE
  by_cases x : a.len = 1
  · by_cases y : b.len = 1
    · rw [x] at h1
      rw [y] at h2
      have r1 := prod_ones _ h1
      have r2 := prod_ones _ h2
      by_cases c : b.shape.length ≤ a.shape.length
      · rw [if_pos ⟨x, y, c⟩]
        by_cases c2 : a.shape.length ≤ b.shape.length
        · rw [if_pos ⟨y, x, c2⟩, r1, r2, show a.shape.length = b.shape.length by omega]
        · rw [if_neg (fun h => c2 h.2.2), if_pos y]
      · rw [if_neg (fun h => c h.2.2), if_pos x, if_pos ⟨y, x, by omega⟩]
    · rw [if_neg (fun h => y h.2.1), if_pos x, if_neg (fun h => y h.1), if_neg y, if_pos x]
  · by_cases y : b.len = 1
    · rw [if_neg (fun h => x h.1), if_neg x, if_pos y, if_neg (fun h => x h.2.1), if_pos y]
    · rw [if_neg (show ¬ (a.len = 1 ∧ b.len = 1 ∧ b.shape.length ≤ a.shape.length) from fun h => x h.1), if_neg x, if_neg y, if_neg (show ¬ (b.len = 1 ∧ a.len = 1 ∧ a.shape.length ≤ b.shape.length) from fun h => y h.1), if_neg y, if_neg x]
      by_cases c : a.shape.length = b.shape.length
      · rw [if_neg (show ¬ (a.shape.length ≠ b.shape.length) from fun h => h c), if_neg (show ¬ (b.shape.length ≠ a.shape.length) from fun h => h c.symm)]
        by_cases c2 : a.shape = b.shape
        · rw [if_neg (show ¬ (a.shape ≠ b.shape) from fun h => h c2), if_neg (show ¬ (b.shape ≠ a.shape) from fun h => h c2.symm), c2]
        · rw [if_pos (show a.shape ≠ b.shape from c2), if_pos (show b.shape ≠ a.shape from fun h => c2 h.symm)]
      · rw [if_pos (show a.shape.length ≠ b.shape.length from c), if_pos (show b.shape.length ≠ a.shape.length from fun h => c h.symm)]
theorem lenE_comm {a b : PA} {d e : Nat} (ha : GoodA d a) (hb : GoodA e b) (h : (frameE a b).1 = 0) : lenE a b = lenE b a := by
  have h1 := (frameE_ok ha hb h).2
  rw [frameE_comm ha hb] at h
  have h2 := (frameE_ok hb ha h).2
  rw [lenP_comm] at h2
  rw [h1] at h2
  injection h2
theorem sameC_comm (a b : PA) (i : Nat) : sameC a b i = sameC b a i := by
  cases a <;> cases b <;> (unfold sameC; first | rfl | (dsimp only; rw [Bool.eq_iff_iff]; simp only [decide_eq_true_eq]; exact ⟨fun h => h.symm, fun h => h.symm⟩))
theorem numsE_congr {N : Nat} {G G' : Nat → Nat × Int} (h : ∀ c, c < N → G c = G' c) : numsE N G = numsE N G' := by
  rcases numsE_cases N G with ⟨⟨c, hc, h1⟩, h2⟩ | ⟨h1, h2⟩
  · rcases numsE_cases N G' with ⟨_, h4⟩ | ⟨h3, h4⟩
    · rw [h2, h4]
    · exact absurd (by rw [h c hc]; exact h3 c hc) h1
  · rcases numsE_cases N G' with ⟨⟨c, hc, h3⟩, h4⟩ | ⟨h3, h4⟩
    · exact absurd (by rw [← h c hc]; exact h1 c hc) h3
    · rw [h2, h4]
      congr 1
      exact List.map_congr_left fun c hc => by rw [h c (List.mem_range.1 hc)]
theorem flatE_comm {f : Int} (hf : TurnF f) {a b : PA} {d e : Nat} (ha : GoodA d a) (hb : GoodA e b) (h : (frameE a b).1 = 0) : flatE f a b = flatE f b a := by
  have hl := lenE_comm ha hb h
  have key : (∀ s l s' l', a = .nums s l → b = .nums s' l' → False) → flatE f a b = flatE f b a := by
    intro hn
    have e1 : ∀ (u v : PA), (∀ s l s' l', u = .nums s l → v = .nums s' l' → False) → flatE f u v = if f = 13 ∨ f = 16 then (0, (List.range (lenE u v)).map fun c => flagF (sameC u v c == decide (f = 13))) else (24, []) := by
      intro u v hn
      cases u <;> cases v <;> first | rfl | exact (hn _ _ _ _ rfl rfl).elim
    rw [e1 a b hn, e1 b a fun s l s' l' h1 h2 => hn s' l' s l h2 h1, hl]
    congr 1
    congr 1
    exact List.map_congr_left fun c _ => by rw [sameC_comm]
  cases a with
  | nums sa la =>
    cases b with
    | nums sb lb =>
      rw [flatE_nums, flatE_nums, hl]
      refine numsE_congr fun c hc => ?_
      rw [← hl] at hc
      have hij := ixP_both ha hb h hc
      exact oneP_comm hf (ha.nums _ hij.1) (hb.nums _ hij.2)
    | chars sb lb => exact key fun _ _ _ _ _ h2 => by cases h2
    | boxes sb lb => exact key fun _ _ _ _ _ h2 => by cases h2
  | chars sa la => exact key fun _ _ _ _ h1 _ => by cases h1
  | boxes sa la => exact key fun _ _ _ _ h1 _ => by cases h1
theorem twoE_comm {f : Int} (hf : TurnF f) : ∀ (N : Nat) (a b : PA) (d e : Nat), GoodA d a → GoodA e b → twoE N f a b = twoE N f b a
  | 0, _, _, _, _, _, _ => by rw [twoE, twoE]
  | N + 1, a, b, d, e, ha, hb => by
    rw [twoE, twoE, frameE_comm hb ha]
    split
    · rfl
    · split
      · rfl
      · rename_i hk hfr
        have h0 : (frameE a b).1 = 0 := Classical.not_not.1 hfr
        have hl := lenE_comm ha hb h0
        have hx : (a.fill = 2 ∨ b.fill = 2) ↔ (b.fill = 2 ∨ a.fill = 2) := Or.comm
        have hm : ((List.range (lenE a b)).map fun i => twoE N f (partA a i) (partA b i)) = ((List.range (lenE b a)).map fun i => twoE N f (partA b i) (partA a i)) := by
          rw [← hl]
          refine List.map_congr_left fun i hi => ?_
          have hij := ixP_both ha hb h0 (List.mem_range.1 hi)
          exact twoE_comm hf N _ _ _ _ (partA_good ha hij.1) (partA_good hb hij.2)
        rw [hm, flatE_comm hf ha hb h0]
        by_cases h2 : a.fill = 2 ∨ b.fill = 2
        · rw [if_pos h2, if_pos (hx.1 h2)]
        · rw [if_neg h2, if_neg fun h => h2 (hx.2 h)]
end Go.Proofs.YtiahegjdkejjpaaGreat
namespace Go.Proofs.YtiahegjdkejjpaaGreat
open Go Go.RowKit Go.Proofs Fl

/-- the functions that the law tries -/
abbrev turnL : List Int := [1, 3, 5, 6, 13, 16, 21, 22, 23, 24]
theorem turnL_at (j : Nat) (h : j < 10) : TurnF (turnL.getD j 0) := by
  match j, h with
  | 0, _ => exact .inl rfl
  | 1, _ => exact .inr (.inl rfl)
  | 2, _ => exact .inr (.inr (.inl rfl))
  | 3, _ => exact .inr (.inr (.inr (.inl rfl)))
  | 4, _ => exact .inr (.inr (.inr (.inr (.inl rfl))))
  | 5, _ => exact .inr (.inr (.inr (.inr (.inr (.inl rfl)))))
  | 6, _ => exact .inr (.inr (.inr (.inr (.inr (.inr (.inl rfl))))))
  | 7, _ => exact .inr (.inr (.inr (.inr (.inr (.inr (.inr (.inl rfl)))))))
  | 8, _ => exact .inr (.inr (.inr (.inr (.inr (.inr (.inr (.inr (.inl rfl))))))))
  | 9, _ => exact .inr (.inr (.inr (.inr (.inr (.inr (.inr (.inr (.inr rfl))))))))
abbrev turnO : Obj := .cells #[.int .i64 1, .int .i64 3, .int .i64 5, .int .i64 6, .int .i64 13, .int .i64 16, .int .i64 21, .int .i64 22, .int .i64 23, .int .i64 24] 3
theorem turn_cell (W : World) (j : Nat) (h : j < 10) : (W.alloc turnO).cell? ⟨W.heap.size, j, none⟩ = some (.int .i64 (turnL.getD j 0)) := by
  rw [cell_of_row _ W.heap.size j _ _ (0, 0) (heap_alloc_new W turnO)]
  match j, h with
  | 0, _ => rfl
  | 1, _ => rfl
  | 2, _ => rfl
  | 3, _ => rfl
  | 4, _ => rfl
  | 5, _ => rfl
  | 6, _ => rfl
  | 7, _ => rfl
  | 8, _ => rfl
  | 9, _ => rfl
theorem lawE_turn {f : Int} (hf : TurnF f) {t1 t2 : RP} (o1 : OkP 40 t1) (o2 : OkP 40 t2) : lawE f t1 t2 = lawE f t2 t1 := by
  unfold lawE
  rw [twoE_comm hf _ _ _ 40 40 (okP_good 40 t1 o1) (okP_good 40 t2 o2), Nat.add_comm (depA (clP t1))]

set_option maxRecDepth 100000 in
set_option maxHeartbeats 4000000 in
theorem turns_any (k : Nat) (hk : k < 256) (t1 t2 : RP) (h1 x1 h2 x2 : Sl) (f1 f2 : Int) (w : World) (i1 : FitP t1) (i2 : FitP t2) (m1 : cntP t1 ≤ 1048576) (m2 : cntP t2 ≤ 1048576) (r1 : PV (fun _ => False) w t1 h1 x1 f1) (r2 : PV (fun _ => False) w t2 h2 x2 f2) :
    Calls Tryz.prog 5 #[.int .u8 (k : Int), plV h1 x1 f1, plV h2 x2 f2] w fun e w' => e = .returned (.bool true) ∧ Below w.heap.size w w' := by
  have HFA := Lib.hid (fun W (hs : P2 w W h1 x1 f1 h2 x2 f2) => fine24_any t1 h1 x1 f1 W i1 m1 (r1.step hs.bel))
  have HFB := Lib.hid (fun W (hs : P2 w W h1 x1 f1 h2 x2 f2) => fine24_any t2 h2 x2 f2 W i2 m2 (r2.step hs.bel))
  have HCA := Lib.hid (fun W (hs : P2 w W h1 x1 f1 h2 x2 f2) => cnt_walk 3000 (cntP t1) t1 h1 x1 f1 W (Nat.le_refl _) m1 (r1.step hs.bel))
  have HCB := Lib.hid (fun W (hs : P2 w W h1 x1 f1 h2 x2 f2) => cnt_walk 3000 (cntP t2) t2 h2 x2 f2 W (Nat.le_refl _) m2 (r2.step hs.bel))
  have HR1 := Lib.hid r1
  have HR2 := Lib.hid r2
  have HS0 := Lib.hid (P2.new w h1 x1 f1 h2 x2 f2)
  unfold FineR at HFA HFB
  unfold CntR at HCA HCB
  clear i1 i2 m1 m2 r1 r2
  go_enter Tryz.func5, Tryz.ntmps5
  go_wp2_with fail
  obtain ⟨w0, hw0⟩ : ∃ w0, w0 = (w.alloc (plO h1 x1 f1)).alloc (plO h2 x2 f2) := ⟨_, rfl⟩
  rw [← hw0] at HS0
  have HW0 := Lib.hid hw0
  clear hw0
  rw [← HW0.out]
  go_cut [28] from 13 (fun v wx => TsMid t1 t2 w h1 x1 f1 h2 x2 f2 v wx)
  case first =>
    refine wp_region_any (by kernel_rfl) ?_
    change wpAny _ _ _ _ _ _ _ (World.drew _)
    have hst0 := HS0.out.dr
    generalize w0.drew = w16 at hst0 ⊢
    obtain ⟨⟨p0, p1, p2⟩, ⟨q0, q1, q2⟩⟩ := (p2_s hst0).1
    refine wpAny_ready (rs := [0]) (by kernel_rfl) (by simp) ?_
    refine AllReady.cons rfl (fun K hK => ?_) AllReady.nil
    go_simp
    refine hK _ _ ?_
    clear hK K
    refine wpAny_ready (rs := [1]) (by kernel_rfl) (by simp) ?_
    refine AllReady.cons rfl (fun K hK => ?_) AllReady.nil
    go_simp
    go_wp2_with (go_at_call 6; refine (HFA.out _ hst0).mono ?_; rintro e w1 ⟨b1, rfl, hg1, hb1⟩; have hst1 : P2 w w1 h1 x1 f1 h2 x2 f2 := P2.step hst0 hb1; clear hb1)
    clear p0 p1 p2 q0 q1 q2
    obtain ⟨⟨p0, p1, p2⟩, ⟨q0, q1, q2⟩⟩ := (p2_s hst1).1
    cases b1
    · refine wpAny_take (i := 2) (v := ?av1) rfl (by kernel_rfl) (by kernel_rfl) (by kernel_rfl) (fun _ _ _ h => h) (Or.inl ⟨by rfl, ?ay1⟩) ?as1
      case ay1 => (intro w; go_simp; try with_reducible rfl)
      refine wpAny_take (i := 3) (v := ?av2) rfl (by kernel_rfl) (by kernel_rfl) (by kernel_rfl) (fun _ _ _ h => h) (Or.inl ⟨by rfl, ?ay2⟩) ?as2
      case ay2 => (intro w; go_simp; try with_reducible rfl)
      refine wpAny_take (i := 4) (v := undef) rfl (by kernel_rfl) (by kernel_rfl) (by kernel_rfl) (fun _ _ _ h => h) (Or.inr ⟨by (go_simp <;> (intro h; cases h)), rfl⟩) ?_
      refine wpAny_take (i := 5) (v := undef) rfl (by kernel_rfl) (by kernel_rfl) (by kernel_rfl) (fun _ _ _ h => h) (Or.inr ⟨by (go_simp <;> (intro h; cases h)), rfl⟩) ?_
      refine wpAny_take (i := 6) (v := undef) rfl (by kernel_rfl) (by kernel_rfl) (by kernel_rfl) (fun _ _ _ h => h) (Or.inr ⟨by (go_simp <;> (intro h; cases h)), rfl⟩) ?_
      refine wpAny_take (i := 7) (v := ?av3) rfl (by kernel_rfl) (by kernel_rfl) (by kernel_rfl) (fun _ _ _ h => h) (Or.inl ⟨by rfl, ?ay3⟩) ?as3
      case ay3 => (intro w; go_simp; try with_reducible rfl)
      refine wpAny_take (i := 8) (v := ?av4) rfl (by kernel_rfl) (by kernel_rfl) (by kernel_rfl) (fun _ _ _ h => h) (Or.inl ⟨by rfl, ?ay4⟩) ?as4
      case ay4 => (intro w; go_simp; try with_reducible rfl)
      refine wpAny_take (i := 9) (v := undef) rfl (by kernel_rfl) (by kernel_rfl) (by kernel_rfl) (fun _ _ _ h => h) (Or.inr ⟨by (go_simp <;> (intro h; cases h)), rfl⟩) ?_
      refine wpAny_take (i := 10) (v := undef) rfl (by kernel_rfl) (by kernel_rfl) (by kernel_rfl) (fun _ _ _ h => h) (Or.inr ⟨by (go_simp <;> (intro h; cases h)), rfl⟩) ?_
      refine wpAny_take (i := 11) (v := undef) rfl (by kernel_rfl) (by kernel_rfl) (by kernel_rfl) (fun _ _ _ h => h) (Or.inr ⟨by (go_simp <;> (intro h; cases h)), rfl⟩) ?_
      refine wpAny_take (i := 12) (v := undef) rfl (by kernel_rfl) (by kernel_rfl) (by kernel_rfl) (fun _ _ _ h => h) (Or.inr ⟨by (go_simp <;> (intro h; cases h)), rfl⟩) ?_
      refine wpAny_take (i := 13) (v := undef) rfl (by kernel_rfl) (by kernel_rfl) (by kernel_rfl) (fun _ _ _ h => h) (Or.inr ⟨by (go_simp <;> (intro h; cases h)), rfl⟩) ?_
      refine wpAny_take (i := 14) (v := undef) rfl (by kernel_rfl) (by kernel_rfl) (by kernel_rfl) (fun _ _ _ h => h) (Or.inr ⟨by (go_simp <;> (intro h; cases h)), rfl⟩) ?_
      refine wpAny_take (i := 15) (v := ?av5) rfl (by kernel_rfl) (by kernel_rfl) (by kernel_rfl) (fun _ _ _ h => h) (Or.inl ⟨by rfl, ?ay5⟩) ?as5
      case ay5 => (intro w; go_simp; try with_reducible rfl)
      refine wpAny_done (by kernel_rfl) ?_ _
      go_wp2
      go_simp
      go_meet
      exact tsMid_no hst1
    · refine wpAny_take (i := 2) (v := ?av6) rfl (by kernel_rfl) (by kernel_rfl) (by kernel_rfl) (fun _ _ _ h => h) (Or.inl ⟨by rfl, ?ay6⟩) ?as6
      case ay6 => (intro w; go_simp; try with_reducible rfl)
      refine wpAny_take (i := 3) (v := ?av7) rfl (by kernel_rfl) (by kernel_rfl) (by kernel_rfl) (fun _ _ _ h => h) (Or.inl ⟨by rfl, ?ay7⟩) ?as7
      case ay7 => (intro w; go_simp; try with_reducible rfl)
      refine wpAny_ready (rs := [4]) (by kernel_rfl) (by simp) ?_
      refine AllReady.cons rfl (fun K hK => ?_) AllReady.nil
      go_simp
      refine hK _ _ ?_
      clear hK K
      refine wpAny_ready (rs := [5]) (by kernel_rfl) (by simp) ?_
      refine AllReady.cons rfl (fun K hK => ?_) AllReady.nil
      go_simp
      go_wp2_with (go_at_call 6; refine (HFB.out _ hst1).mono ?_; rintro e w2 ⟨b2, rfl, hg2, hb2⟩; have hst2 : P2 w w2 h1 x1 f1 h2 x2 f2 := P2.step hst1 hb2; clear hb2)
      clear p0 p1 p2 q0 q1 q2
      obtain ⟨⟨p0, p1, p2⟩, ⟨q0, q1, q2⟩⟩ := (p2_s hst2).1
      cases b2
      · refine wpAny_take (i := 6) (v := ?av8) rfl (by kernel_rfl) (by kernel_rfl) (by kernel_rfl) (fun _ _ _ h => h) (Or.inl ⟨by go_simp, ?ay8⟩) ?as8
        case ay8 => (intro w; go_simp; try with_reducible rfl)
        refine wpAny_take (i := 7) (v := ?av9) rfl (by kernel_rfl) (by kernel_rfl) (by kernel_rfl) (fun _ _ _ h => h) (Or.inl ⟨by rfl, ?ay9⟩) ?as9
        case ay9 => (intro w; go_simp; try with_reducible rfl)
        refine wpAny_take (i := 8) (v := ?av10) rfl (by kernel_rfl) (by kernel_rfl) (by kernel_rfl) (fun _ _ _ h => h) (Or.inl ⟨by rfl, ?ay10⟩) ?as10
        case ay10 => (intro w; go_simp; try with_reducible rfl)
        refine wpAny_take (i := 9) (v := undef) rfl (by kernel_rfl) (by kernel_rfl) (by kernel_rfl) (fun _ _ _ h => h) (Or.inr ⟨by (go_simp <;> (intro h; cases h)), rfl⟩) ?_
        refine wpAny_take (i := 10) (v := undef) rfl (by kernel_rfl) (by kernel_rfl) (by kernel_rfl) (fun _ _ _ h => h) (Or.inr ⟨by (go_simp <;> (intro h; cases h)), rfl⟩) ?_
        refine wpAny_take (i := 11) (v := undef) rfl (by kernel_rfl) (by kernel_rfl) (by kernel_rfl) (fun _ _ _ h => h) (Or.inr ⟨by (go_simp <;> (intro h; cases h)), rfl⟩) ?_
        refine wpAny_take (i := 12) (v := undef) rfl (by kernel_rfl) (by kernel_rfl) (by kernel_rfl) (fun _ _ _ h => h) (Or.inr ⟨by (go_simp <;> (intro h; cases h)), rfl⟩) ?_
        refine wpAny_take (i := 13) (v := undef) rfl (by kernel_rfl) (by kernel_rfl) (by kernel_rfl) (fun _ _ _ h => h) (Or.inr ⟨by (go_simp <;> (intro h; cases h)), rfl⟩) ?_
        refine wpAny_take (i := 14) (v := undef) rfl (by kernel_rfl) (by kernel_rfl) (by kernel_rfl) (fun _ _ _ h => h) (Or.inr ⟨by (go_simp <;> (intro h; cases h)), rfl⟩) ?_
        refine wpAny_take (i := 15) (v := ?av11) rfl (by kernel_rfl) (by kernel_rfl) (by kernel_rfl) (fun _ _ _ h => h) (Or.inl ⟨by rfl, ?ay11⟩) ?as11
        case ay11 => (intro w; go_simp; try with_reducible rfl)
        refine wpAny_done (by kernel_rfl) ?_ _
        go_wp2
        go_simp
        go_meet
        exact tsMid_no hst2
      · refine wpAny_take (i := 6) (v := ?av18) rfl (by kernel_rfl) (by kernel_rfl) (by kernel_rfl) (fun _ _ _ h => h) (Or.inl ⟨by go_simp, ?ay18⟩) ?as18
        case ay18 => (intro w; go_simp; try with_reducible rfl)
        refine wpAny_take (i := 7) (v := ?av19) rfl (by kernel_rfl) (by kernel_rfl) (by kernel_rfl) (fun _ _ _ h => h) (Or.inl ⟨by rfl, ?ay19⟩) ?as19
        case ay19 => (intro w; go_simp; try with_reducible rfl)
        refine wpAny_take (i := 8) (v := ?av20) rfl (by kernel_rfl) (by kernel_rfl) (by kernel_rfl) (fun _ _ _ h => h) (Or.inl ⟨by rfl, ?ay20⟩) ?as20
        case ay20 => (intro w; go_simp; try with_reducible rfl)
        refine wpAny_ready (rs := [9, 11]) (by kernel_rfl) (by simp) ?_
        refine AllReady.cons rfl (fun K hK => ?_) (AllReady.cons rfl (fun K hK => ?_) AllReady.nil)
        · go_simp
          refine hK _ _ ?_
          clear hK K
          refine wpAny_ready (rs := [10, 11]) (by kernel_rfl) (by simp) ?_
          refine AllReady.cons rfl (fun K hK => ?_) (AllReady.cons rfl (fun K hK => ?_) AllReady.nil)
          · go_simp
            go_wp2_with (go_at_call 7; refine (HCA.out _ hst2).mono ?_; rintro e w3 ⟨⟨n3, rfl, hn3⟩, hb3⟩; have hst3 : P2 w w3 h1 x1 f1 h2 x2 f2 := P2.step hst2 hb3; clear hb3)
            clear p0 p1 p2 q0 q1 q2
            obtain ⟨⟨p0, p1, p2⟩, ⟨q0, q1, q2⟩⟩ := (p2_s hst3).1
            refine wpAny_ready (rs := [11]) (by kernel_rfl) (by simp) ?_
            refine AllReady.cons rfl (fun K hK => ?_) AllReady.nil
            go_simp
            refine hK _ _ ?_
            clear hK K
            refine wpAny_ready (rs := [12]) (by kernel_rfl) (by simp) ?_
            refine AllReady.cons rfl (fun K hK => ?_) AllReady.nil
            go_simp
            go_wp2_with (go_at_call 7; refine (HCB.out _ hst3).mono ?_; rintro e w4 ⟨⟨n4, rfl, hn4⟩, hb4⟩; have hst4 : P2 w w4 h1 x1 f1 h2 x2 f2 := P2.step hst3 hb4; clear hb4)
            clear p0 p1 p2 q0 q1 q2
            obtain ⟨⟨p0, p1, p2⟩, ⟨q0, q1, q2⟩⟩ := (p2_s hst4).1
            refine wpAny_take (i := 13) (v := ?av12) rfl (by kernel_rfl) (by kernel_rfl) (by kernel_rfl) (fun _ _ _ h => h) (Or.inl ⟨by go_simp, ?ay12⟩) ?as12
            case ay12 => (intro w; go_simp; try with_reducible rfl)
            refine wpAny_take (i := 14) (v := ?av13) rfl (by kernel_rfl) (by kernel_rfl) (by kernel_rfl) (fun _ _ _ h => h) (Or.inl ⟨by go_simp, ?ay13⟩) ?as13
            case ay13 => (intro w; go_simp; try with_reducible rfl)
            refine wpAny_take (i := 15) (v := ?av14) rfl (by kernel_rfl) (by kernel_rfl) (by kernel_rfl) (fun _ _ _ h => h) (Or.inl ⟨by rfl, ?ay14⟩) ?as14
            case ay14 => (intro w; go_simp; try with_reducible rfl)
            refine wpAny_done (by kernel_rfl) ?_ _
            go_wp2
            go_simp
            go_meet
            exact tsMid_of (hg1 (by trivial)) (hg2 (by trivial)) hst4
          · go_simp
            refine hK _ _ ?_
            clear hK K
            refine wpAny_ready (rs := [10]) (by kernel_rfl) (by simp) ?_
            refine AllReady.cons rfl (fun K hK => ?_) AllReady.nil
            go_simp
            go_wp2_with (go_at_call 7; refine (HCA.out _ hst2).mono ?_; rintro e w3 ⟨⟨n3, rfl, hn3⟩, hb3⟩; have hst3 : P2 w w3 h1 x1 f1 h2 x2 f2 := P2.step hst2 hb3; clear hb3)
            clear p0 p1 p2 q0 q1 q2
            obtain ⟨⟨p0, p1, p2⟩, ⟨q0, q1, q2⟩⟩ := (p2_s hst3).1
            refine wpAny_ready (rs := [12]) (by kernel_rfl) (by simp) ?_
            refine AllReady.cons rfl (fun K hK => ?_) AllReady.nil
            go_simp
            go_wp2_with (go_at_call 7; refine (HCB.out _ hst3).mono ?_; rintro e w4 ⟨⟨n4, rfl, hn4⟩, hb4⟩; have hst4 : P2 w w4 h1 x1 f1 h2 x2 f2 := P2.step hst3 hb4; clear hb4)
            clear p0 p1 p2 q0 q1 q2
            obtain ⟨⟨p0, p1, p2⟩, ⟨q0, q1, q2⟩⟩ := (p2_s hst4).1
            refine wpAny_take (i := 13) (v := ?av15) rfl (by kernel_rfl) (by kernel_rfl) (by kernel_rfl) (fun _ _ _ h => h) (Or.inl ⟨by go_simp, ?ay15⟩) ?as15
            case ay15 => (intro w; go_simp; try with_reducible rfl)
            refine wpAny_take (i := 14) (v := ?av16) rfl (by kernel_rfl) (by kernel_rfl) (by kernel_rfl) (fun _ _ _ h => h) (Or.inl ⟨by go_simp, ?ay16⟩) ?as16
            case ay16 => (intro w; go_simp; try with_reducible rfl)
            refine wpAny_take (i := 15) (v := ?av17) rfl (by kernel_rfl) (by kernel_rfl) (by kernel_rfl) (fun _ _ _ h => h) (Or.inl ⟨by rfl, ?ay17⟩) ?as17
            case ay17 => (intro w; go_simp; try with_reducible rfl)
            refine wpAny_done (by kernel_rfl) ?_ _
            go_wp2
            go_simp
            go_meet
            exact tsMid_of (hg1 (by trivial)) (hg2 (by trivial)) hst4
        · go_simp
          refine hK _ _ ?_
          clear hK K
          refine wpAny_ready (rs := [9]) (by kernel_rfl) (by simp) ?_
          refine AllReady.cons rfl (fun K hK => ?_) AllReady.nil
          go_simp
          refine hK _ _ ?_
          clear hK K
          refine wpAny_ready (rs := [10]) (by kernel_rfl) (by simp) ?_
          refine AllReady.cons rfl (fun K hK => ?_) AllReady.nil
          go_simp
          go_wp2_with (go_at_call 7; refine (HCA.out _ hst2).mono ?_; rintro e w3 ⟨⟨n3, rfl, hn3⟩, hb3⟩; have hst3 : P2 w w3 h1 x1 f1 h2 x2 f2 := P2.step hst2 hb3; clear hb3)
          clear p0 p1 p2 q0 q1 q2
          obtain ⟨⟨p0, p1, p2⟩, ⟨q0, q1, q2⟩⟩ := (p2_s hst3).1
          refine wpAny_ready (rs := [12]) (by kernel_rfl) (by simp) ?_
          refine AllReady.cons rfl (fun K hK => ?_) AllReady.nil
          go_simp
          go_wp2_with (go_at_call 7; refine (HCB.out _ hst3).mono ?_; rintro e w4 ⟨⟨n4, rfl, hn4⟩, hb4⟩; have hst4 : P2 w w4 h1 x1 f1 h2 x2 f2 := P2.step hst3 hb4; clear hb4)
          clear p0 p1 p2 q0 q1 q2
          obtain ⟨⟨p0, p1, p2⟩, ⟨q0, q1, q2⟩⟩ := (p2_s hst4).1
          refine wpAny_take (i := 13) (v := ?av21) rfl (by kernel_rfl) (by kernel_rfl) (by kernel_rfl) (fun _ _ _ h => h) (Or.inl ⟨by go_simp, ?ay21⟩) ?as21
          case ay21 => (intro w; go_simp; try with_reducible rfl)
          refine wpAny_take (i := 14) (v := ?av22) rfl (by kernel_rfl) (by kernel_rfl) (by kernel_rfl) (fun _ _ _ h => h) (Or.inl ⟨by go_simp, ?ay22⟩) ?as22
          case ay22 => (intro w; go_simp; try with_reducible rfl)
          refine wpAny_take (i := 15) (v := ?av23) rfl (by kernel_rfl) (by kernel_rfl) (by kernel_rfl) (fun _ _ _ h => h) (Or.inl ⟨by rfl, ?ay23⟩) ?as23
          case ay23 => (intro w; go_simp; try with_reducible rfl)
          refine wpAny_done (by kernel_rfl) ?_ _
          go_wp2
          go_simp
          go_meet
          exact tsMid_of (hg1 (by trivial)) (hg2 (by trivial)) hst4

  obtain ⟨b, rfl, hok, hst⟩ := hcut
  have HST := Lib.hid hst
  clear hst HS0 HW0 HFA HFB HCA HCB
  cases b with
  | true =>
    go_wp2_with fail
    refine (awake24_any _).mono ?_
    rintro e w1 ⟨rfl, hb⟩
    have HB := Lib.hid (bel_both HST.out.bel hb)
    clear hb
    go_wp2
    go_ret
    exact ⟨rfl, HB.out⟩
  | false =>
    obtain ⟨⟨o1, c1⟩, ⟨o2, c2⟩⟩ := hok rfl
    obtain ⟨wt, hwt⟩ : ∃ wt, wt = wc := ⟨_, rfl⟩
    subst hwt
    have hz := turnL_at (k % 10) (Nat.mod_lt _ (by decide))
    have hcl := turn_cell wt (k % 10) (Nat.mod_lt _ (by decide))
    generalize turnL.getD (k % 10) 0 = z at hz hcl
    have hj : k % 10 < 10 := Nat.mod_lt _ (by decide)
    have hrem : Int.tmod (k : Int) 10 = ((k % 10 : Nat) : Int) := by rw [Int.tmod_eq_emod_of_nonneg (by omega)]; omega
    generalize k % 10 = j at hcl hj hrem
    have HSV := Lib.hid (HST.out.step (bel1 wt turnO))
    have HGD := Lib.hid (fun h => lawE_good (f := z) o1 o2 h)
    have HSM := Lib.hid (lawE_small (f := z) o1 o2 c1 c2)
    have HEQ := Lib.hid (lawE_turn hz o1 o2)
    have HOA : Hid (∀ W, P2 w W h1 x1 f1 h2 x2 f2 → Calls Tryz.prog 10 #[plV h1 x1 f1] W (AaR noH W (clP t1))) := fun W hs => lawOf_any noH t1 h1 x1 f1 W (noH_lt W) o1 (by omega) (HR1.out.step hs.bel)
    have HOB : Hid (∀ W, P2 w W h1 x1 f1 h2 x2 f2 → Calls Tryz.prog 10 #[plV h2 x2 f2] W (AaR noH W (clP t2))) := fun W hs => lawOf_any noH t2 h2 x2 f2 W (noH_lt W) o2 (by omega) (HR2.out.step hs.bel)
    have HTA := Lib.hid (fun (wr W : World) (u1 u2 : Sl) (v1 v2 : V8) (hs : LwS w wr h1 x1 f1 h2 x2 f2 W) => lawTwo_any z o1 o2 c1 c2 (Fresh wr W) W (fun b e => e.2) u1 u2 v1 v2)
    have HTB := Lib.hid (fun (wr W : World) (u1 u2 : Sl) (v1 v2 : V8) (hs : LwS w wr h1 x1 f1 h2 x2 f2 W) => lawTwo_any z o2 o1 c2 c1 (Fresh wr W) W (fun b e => e.2) u1 u2 v1 v2)
    rw [← HEQ.out] at HTB
    generalize lawE z t1 t2 = rr at HTA HTB HGD HSM
    unfold AaR at HOA HOB
    unfold TwU at HTA HTB
    clear hok o1 o2 c1 c2 HR1 HR2 HST HEQ hz
    go_upto_region 5 with fail
    obtain ⟨wr, hwr⟩ : ∃ wr, wr = wt.alloc turnO := ⟨_, rfl⟩
    rw [← hwr] at HSV hcl
    have HWR := Lib.hid hwr
    rw [← HWR.out]
    clear hwr hcl
    have HST : Hid (LwS w wr h1 x1 f1 h2 x2 f2 wr) := ⟨HSV.out, Below.refl _ _, HSV.out.sz⟩
    have HO1 := Lib.hid (fun W (hs : LwS w wr h1 x1 f1 h2 x2 f2 W) => HOA.out W hs.p2)
    have HO2 := Lib.hid (fun W (hs : LwS w wr h1 x1 f1 h2 x2 f2 W) => HOB.out W hs.p2)
    have HTW := Lib.hid (fun W => HTA.out wr W)
    go_cut [9, 10] from 39 (fun v e wx => LwMid w wr h1 x1 f1 h2 x2 f2 rr v e wx)
    case first =>
      have hs0 := HST.out.dr
      have hs00 := HST.out
      go_region_held3 (fun W => ((W.cell? ⟨w.heap.size, 0, none⟩ = some (.slice h1.1 h1.2.1 h1.2.2) ∧ W.cell? ⟨w.heap.size, 1, none⟩ = some (.slice x1.1 x1.2.1 x1.2.2) ∧ W.cell? ⟨w.heap.size, 2, none⟩ = some (.int .i64 f1)) ∧ (W.cell? ⟨w.heap.size + 1, 0, none⟩ = some (.slice h2.1 h2.2.1 h2.2.2) ∧ W.cell? ⟨w.heap.size + 1, 1, none⟩ = some (.slice x2.1 x2.2.1 x2.2.2) ∧ W.cell? ⟨w.heap.size + 1, 2, none⟩ = some (.int .i64 f2))) ∧ LwS w wr h1 x1 f1 h2 x2 f2 W)
        (first | (with_reducible assumption) | (with_reducible (refine lws_s ?_); repeat (first | (with_reducible assumption) | (with_reducible refine LwS.dr ?_) | (with_reducible refine LwS.put ?_ (by first | assumption | omega | (simp; omega)) _) | (with_reducible refine LwS.al ?_ _))))
        (first
          | (go_at_call 10; (with_reducible refine (HO1.out _ ?_).mono ?_); exact LwS.self (by repeat (first | (with_reducible assumption) | (with_reducible refine LwS.dr ?_) | (with_reducible refine LwS.al ?_ _))); rintro e w1 ⟨ha1, pa1, rfl, hav1, hb1⟩; have hst1 : LwS w wr h1 x1 f1 h2 x2 f2 w1 := LwS.step (by repeat (first | (with_reducible assumption) | (with_reducible refine LwS.dr ?_) | (with_reducible refine LwS.al ?_ _))) hb1; have hat1 : AvAt noH (clP t1) ha1 pa1 w1 := hav1; obtain ⟨hc1, hf1⟩ := bcell2 hb1; have hz1 := hb1.size; have hs1z := hst1.bel.size; (first | (have hsq1 : wr.heap.size < w1.heap.size := Nat.lt_of_lt_of_le (lt_al _ _) hz1) | (have hsq1 : wr.heap.size < w1.heap.size := Nat.lt_of_lt_of_le (lt_dr _ _) hz1) | skip); have HB1 := Lib.hid hb1; clear hb1 hav1)
          | (go_at_call 10; (with_reducible refine (HO2.out _ ?_).mono ?_); exact LwS.self (by repeat (first | (with_reducible assumption) | (with_reducible refine LwS.dr ?_) | (with_reducible refine LwS.al ?_ _))); rintro e w2 ⟨ha2, pa2, rfl, hav2, hb2⟩; have hst2 : LwS w wr h1 x1 f1 h2 x2 f2 w2 := LwS.step (by repeat (first | (with_reducible assumption) | (with_reducible refine LwS.dr ?_) | (with_reducible refine LwS.al ?_ _))) hb2; have hat2 : AvAt noH (clP t2) ha2 pa2 w2 := hav2; have hat1' : AvAt noH (clP t1) ha1 pa1 w2 := AvAt.step (by repeat (first | (with_reducible assumption) | (with_reducible refine AvAt.dr ?_) | (with_reducible refine AvAt.al ?_ _))) hb2; obtain ⟨hc2, hf2⟩ := bcell2 hb2; have hz2 := hb2.size; have hs2z := hst2.bel.size; (first | (have hsq2 : w1.heap.size < w2.heap.size := Nat.lt_of_lt_of_le (lt_al _ _) hz2) | (have hsq2 : w1.heap.size < w2.heap.size := Nat.lt_of_lt_of_le (lt_dr _ _) hz2) | (have hsq2 : w1.heap.size ≤ w2.heap.size := hz2) | skip); (first | (have hsr2 : wr.heap.size < w2.heap.size := Nat.lt_of_lt_of_le hsq1 (Nat.le_of_lt hsq2)) | (have hsr2 : wr.heap.size < w2.heap.size := Nat.lt_of_lt_of_le hsq1 hsq2) | skip); have HB2 := Lib.hid hb2; clear hb2 hav2)
          | (go_at_call 9; (with_reducible refine (HTW.out _ _ _ _ _ ?_ ?_ ?_).mono ?_); exact LwS.self (by repeat (first | (with_reducible assumption) | (with_reducible refine LwS.dr ?_) | (with_reducible refine LwS.al ?_ _))); exact AvAt.self (by repeat (first | (with_reducible assumption) | (with_reducible refine AvAt.dr ?_) | (with_reducible refine AvAt.al ?_ _))); exact AvAt.self (by repeat (first | (with_reducible assumption) | (with_reducible refine AvAt.dr ?_) | (with_reducible refine AvAt.al ?_ _))); rintro e w5 ⟨h5, u5, rfl, hav5, hb5⟩; have hst5 : LwS w wr h1 x1 f1 h2 x2 f2 w5 := LwS.step (by repeat (first | (with_reducible assumption) | (with_reducible refine LwS.dr ?_) | (with_reducible refine LwS.al ?_ _))) hb5; obtain ⟨hc5, hf5⟩ := bcell2 hb5; have hz5 := hb5.size; have hs5z := hst5.bel.size; (first | (have hsq5 : w2.heap.size < w5.heap.size := Nat.lt_of_lt_of_le (lt_al _ _) hz5) | (have hsq5 : w2.heap.size < w5.heap.size := Nat.lt_of_lt_of_le (lt_dr _ _) hz5) | (have hsq5 : w2.heap.size ≤ w5.heap.size := hz5) | skip); (first | (have hsr5 : wr.heap.size < w5.heap.size := Nat.lt_of_lt_of_le hsr2 hsq5) | skip); (first | (have hsr6 : w1.heap.size < w5.heap.size := Nat.lt_of_lt_of_le hsq2 hsq5) | skip); have HB5 := Lib.hid hb5; have HAV5 := Lib.hid hav5; clear hb5 hav5))
      all_goals
        go_wp2
        go_meet
        first
          | (with_reducible exact lwMid_new HAV5.out hst5)
          | (with_reducible refine lwMid_old HAV5.out hst5 (ZB.step ?_ HB5.out) ?_ ?_; all_goals (first | (with_reducible exact Nat.le_refl _) | exact hst1.bel.size | exact hst2.bel.size | (repeat (first | (with_reducible exact ZB.new _) | (with_reducible refine ZB.dr ?_) | (with_reducible refine ZB.step ?_ HB2.out) | (with_reducible refine ZB.step ?_ HB1.out)))))

    obtain ⟨V, h3, p3, rfl, rfl, hVz, hVb, hav, hst⟩ := hcut
    have HV3 := Lib.hid hVb
    have HA3 := Lib.hid hav
    obtain ⟨ws, hws⟩ : ∃ ws, ws = wc := ⟨_, rfl⟩
    subst hws
    have HSW := Lib.hid hst.p2
    have HBT := Lib.hid hst.bel
    clear hst hVb hav hVz HST HO1 HO2 HTW HTA HSV HWR
    have HST : Hid (LwS w ws h1 x1 f1 h2 x2 f2 ws) := ⟨HSW.out, Below.refl _ _, HSW.out.sz⟩
    have HO1 := Lib.hid (fun W (hs : LwS w ws h1 x1 f1 h2 x2 f2 W) => HOB.out W hs.p2)
    have HO2 := Lib.hid (fun W (hs : LwS w ws h1 x1 f1 h2 x2 f2 W) => HOA.out W hs.p2)
    have HTW := Lib.hid (fun W => HTB.out ws W)
    go_upto_region 6 with fail
    go_cut [11, 12] from 48 (fun v e wx => LwMid w ws h1 x1 f1 h2 x2 f2 rr v e wx)
    case first =>
      have hs0 := HST.out.dr
      have hs00 := HST.out
      go_region_held3 (fun W => ((W.cell? ⟨w.heap.size, 0, none⟩ = some (.slice h1.1 h1.2.1 h1.2.2) ∧ W.cell? ⟨w.heap.size, 1, none⟩ = some (.slice x1.1 x1.2.1 x1.2.2) ∧ W.cell? ⟨w.heap.size, 2, none⟩ = some (.int .i64 f1)) ∧ (W.cell? ⟨w.heap.size + 1, 0, none⟩ = some (.slice h2.1 h2.2.1 h2.2.2) ∧ W.cell? ⟨w.heap.size + 1, 1, none⟩ = some (.slice x2.1 x2.2.1 x2.2.2) ∧ W.cell? ⟨w.heap.size + 1, 2, none⟩ = some (.int .i64 f2))) ∧ LwS w ws h1 x1 f1 h2 x2 f2 W)
        (first | (with_reducible assumption) | (with_reducible (refine lws_s ?_); repeat (first | (with_reducible assumption) | (with_reducible refine LwS.dr ?_) | (with_reducible refine LwS.put ?_ (by first | assumption | omega | (simp; omega)) _) | (with_reducible refine LwS.al ?_ _))))
        (first
          | (go_at_call 10; (with_reducible refine (HO1.out _ ?_).mono ?_); exact LwS.self (by repeat (first | (with_reducible assumption) | (with_reducible refine LwS.dr ?_) | (with_reducible refine LwS.al ?_ _))); rintro e w1 ⟨ha1, pa1, rfl, hav1, hb1⟩; have hst1 : LwS w ws h1 x1 f1 h2 x2 f2 w1 := LwS.step (by repeat (first | (with_reducible assumption) | (with_reducible refine LwS.dr ?_) | (with_reducible refine LwS.al ?_ _))) hb1; have hat1 : AvAt noH (clP t2) ha1 pa1 w1 := hav1; obtain ⟨hc1, hf1⟩ := bcell2 hb1; have hz1 := hb1.size; have hs1z := hst1.bel.size; (first | (have hsq1 : ws.heap.size < w1.heap.size := Nat.lt_of_lt_of_le (lt_al _ _) hz1) | (have hsq1 : ws.heap.size < w1.heap.size := Nat.lt_of_lt_of_le (lt_dr _ _) hz1) | skip); have HB1 := Lib.hid hb1; clear hb1 hav1)
          | (go_at_call 10; (with_reducible refine (HO2.out _ ?_).mono ?_); exact LwS.self (by repeat (first | (with_reducible assumption) | (with_reducible refine LwS.dr ?_) | (with_reducible refine LwS.al ?_ _))); rintro e w2 ⟨ha2, pa2, rfl, hav2, hb2⟩; have hst2 : LwS w ws h1 x1 f1 h2 x2 f2 w2 := LwS.step (by repeat (first | (with_reducible assumption) | (with_reducible refine LwS.dr ?_) | (with_reducible refine LwS.al ?_ _))) hb2; have hat2 : AvAt noH (clP t1) ha2 pa2 w2 := hav2; have hat1' : AvAt noH (clP t2) ha1 pa1 w2 := AvAt.step (by repeat (first | (with_reducible assumption) | (with_reducible refine AvAt.dr ?_) | (with_reducible refine AvAt.al ?_ _))) hb2; obtain ⟨hc2, hf2⟩ := bcell2 hb2; have hz2 := hb2.size; have hs2z := hst2.bel.size; (first | (have hsq2 : w1.heap.size < w2.heap.size := Nat.lt_of_lt_of_le (lt_al _ _) hz2) | (have hsq2 : w1.heap.size < w2.heap.size := Nat.lt_of_lt_of_le (lt_dr _ _) hz2) | (have hsq2 : w1.heap.size ≤ w2.heap.size := hz2) | skip); (first | (have hsr2 : ws.heap.size < w2.heap.size := Nat.lt_of_lt_of_le hsq1 (Nat.le_of_lt hsq2)) | (have hsr2 : ws.heap.size < w2.heap.size := Nat.lt_of_lt_of_le hsq1 hsq2) | skip); have HB2 := Lib.hid hb2; clear hb2 hav2)
          | (go_at_call 9; (with_reducible refine (HTW.out _ _ _ _ _ ?_ ?_ ?_).mono ?_); exact LwS.self (by repeat (first | (with_reducible assumption) | (with_reducible refine LwS.dr ?_) | (with_reducible refine LwS.al ?_ _))); exact AvAt.self (by repeat (first | (with_reducible assumption) | (with_reducible refine AvAt.dr ?_) | (with_reducible refine AvAt.al ?_ _))); exact AvAt.self (by repeat (first | (with_reducible assumption) | (with_reducible refine AvAt.dr ?_) | (with_reducible refine AvAt.al ?_ _))); rintro e w5 ⟨h5, u5, rfl, hav5, hb5⟩; have hst5 : LwS w ws h1 x1 f1 h2 x2 f2 w5 := LwS.step (by repeat (first | (with_reducible assumption) | (with_reducible refine LwS.dr ?_) | (with_reducible refine LwS.al ?_ _))) hb5; obtain ⟨hc5, hf5⟩ := bcell2 hb5; have hz5 := hb5.size; have hs5z := hst5.bel.size; (first | (have hsq5 : w2.heap.size < w5.heap.size := Nat.lt_of_lt_of_le (lt_al _ _) hz5) | (have hsq5 : w2.heap.size < w5.heap.size := Nat.lt_of_lt_of_le (lt_dr _ _) hz5) | (have hsq5 : w2.heap.size ≤ w5.heap.size := hz5) | skip); (first | (have hsr5 : ws.heap.size < w5.heap.size := Nat.lt_of_lt_of_le hsr2 hsq5) | skip); (first | (have hsr6 : w1.heap.size < w5.heap.size := Nat.lt_of_lt_of_le hsq2 hsq5) | skip); have HB5 := Lib.hid hb5; have HAV5 := Lib.hid hav5; clear hb5 hav5))
      all_goals
        go_wp2
        go_meet
        first
          | (with_reducible exact lwMid_new HAV5.out hst5)
          | (with_reducible refine lwMid_old HAV5.out hst5 (ZB.step ?_ HB5.out) ?_ ?_; all_goals (first | (with_reducible exact Nat.le_refl _) | exact hst1.bel.size | exact hst2.bel.size | (repeat (first | (with_reducible exact ZB.new _) | (with_reducible refine ZB.dr ?_) | (with_reducible refine ZB.step ?_ HB2.out) | (with_reducible refine ZB.step ?_ HB1.out)))))

    obtain ⟨V4, h4, p4, rfl, rfl, hVz, hVb, hav, hst⟩ := hcut
    have HV4 := Lib.hid hVb
    have HA4 := Lib.hid hav
    have HB4 := Lib.hid hst.bel
    have HBW := Lib.hid hst.p2.bel
    obtain ⟨wu, hwu⟩ : ∃ wu, wu = wc := ⟨_, rfl⟩
    subst hwu
    clear hst hVb hav hVz HST HO1 HO2 HTW HTB HOA HOB HSW
    have ee : (rr.1 == rr.1) = true := by simp
    by_cases h0 : rr.1 = 0
    · have ne : (rr.1 != 0) = false := by simpa using h0
      have HS3 := Lib.hid (AV.step (HA3.out h0) HB4.out)
      have HS4 := Lib.hid (HA4.out h0)
      have hv3 : wu.heap[V]? = some (arrO h3 p3) := by rw [HB4.out.block _ (lt_blk HV3.out)]; exact HV3.out
      obtain ⟨⟨c0, c1, c2, c3, c4, c5, c6, c7, c8⟩, cz⟩ := at9_of hv3
      obtain ⟨⟨d0, d1, d2, d3, d4, d5, d6, d7, d8⟩, dz⟩ := at9_of HV4.out
      have HSM2 := Lib.hid (vsame_any 40 _ _ rr.2 h3 h4 p3 p4 wu (HGD.out h0) HSM.out HS3.out HS4.out)
      clear h0 hv3 HA3 HA4
      go_wp2_with fail
      refine HSM2.out.mono ?_
      rintro e w7 ⟨rfl, hb⟩
      have HB7 := Lib.hid (bel_both HBW.out hb)
      clear hb c0 c1 c2 c3 c4 c5 c6 c7 c8 d0 d1 d2 d3 d4 d5 d6 d7 d8 cz dz
      go_wp2_with fail
      refine (awake24_any _).mono ?_
      rintro e w8 ⟨rfl, hb⟩
      have HB8 := Lib.hid (bel_both HB7.out hb)
      clear hb
      go_wp2
      go_ret
      exact ⟨rfl, HB8.out⟩
    · have ne : (rr.1 != 0) = true := by simpa using h0
      clear h0
      go_wp2_with fail
      refine (awake24_any _).mono ?_
      rintro e w8 ⟨rfl, hb⟩
      have HB8 := Lib.hid (bel_both HBW.out hb)
      clear hb
      go_wp2
      go_ret
      exact ⟨rfl, HB8.out⟩
end Go.Proofs.YtiahegjdkejjpaaGreat
