/- The walk of lex.quoted, its loop. Conditions: at most 4096 signs. -/
import Derived.Test.YtnhnaallalgefaaDoorLexG
namespace Go.Proofs.YtnhnaallalgefaaDoor
open Go Go.RowKit Go.Proofs Fl

theorem quotedS_none {l : List Int} {i : Nat} (h : quoteEnd l (i + 1) [] = none) : quotedS l i = none := by unfold quotedS; rw [h]; rfl
theorem quotedS_some {l acc : List Int} {i e : Nat} (h : quoteEnd l (i + 1) [] = some (acc, e)) : quotedS l i = some ({ kind := 2, at_ := i, text := acc }, e) := by unfold quotedS; rw [h]; rfl

theorem QS.start (w : World) (i : Int) : QS w i [] (.slice none 0 0) ((w.alloc (.cells #[.int .i64 0, .int .i64 0, .float .f64 0, .slice none 0 0, .string ⟨#[]⟩, .int .i32 0] 136)).alloc (.cells #[.int .i64 2, .int .i64 i, .float .f64 0, .slice none 0 0, .string ⟨#[]⟩, .int .i32 0] 136)) := by
  refine ⟨((Below.refl _ w).alloc (Nat.le_refl _) _).alloc (by simp) _, by simp, OwnR.nil _ _, ?_, ?_, ?_, ?_, ?_, ?_, ?_, ?_, ?_⟩
  all_goals try (rw [World.cell?_alloc_at _ _ _ _ (by simp)]; rfl)
  · intro j hj
    rw [World.cell?_alloc_past _ _ _ (by simp), World.cell?_alloc_at _ _ _ _ rfl]
    rcases (show j = 0 ∨ j = 1 ∨ j = 2 ∨ j = 3 ∨ j = 4 ∨ j = 5 by omega) with rfl | rfl | rfl | rfl | rfl | rfl
    all_goals exact ⟨_, rfl⟩
  · intro j; rw [World.frozen?_alloc_past _ _ _ (by simp), World.frozen?_alloc_at _ _ _ _ rfl]
  · intro j; rw [World.frozen?_alloc_at _ _ _ _ (by simp)]

set_option maxRecDepth 100000 in
set_option maxHeartbeats 3200000 in
theorem quoted_walk (A : Option Addr) (n cc : Nat) (l : List Int) (i : Nat) (w : World) (hr : Runes w (.slice A n cc) l) (hl : l.length ≤ 4096) (hi : i < l.length) :
    Calls Tryd.prog 132 #[.slice A n cc, .int .i64 (i : Int)] w fun e w' => TokTells (quotedS l i) i w.heap.size e w' ∧ Below w.heap.size w w' := by
  obtain ⟨A', cc', n', hv', hn, hcell⟩ := hr.opn
  obtain ⟨rfl, rfl, rfl⟩ : A = A' ∧ n = n' ∧ cc = cc' := by simpa using hv'
  have HC := Lib.hid hcell
  have HN := Lib.hid hn
  have hn4 : n ≤ 4096 := by omega
  have hin : i < n := by omega
  have hsf := st_float
  have HQ0 := Lib.hid (QS.start w i)
  have HOUT : Hid (∀ k acc, ¬ k < l.length → quoteEnd l k acc = none) := fun k acc h => quoteEnd_out h
  have HNL : Hid (∀ k acc, k < l.length → l.getD k 0 = 10 → quoteEnd l k acc = none) := fun k acc h h2 => quoteEnd_nl h h2
  have HTWO : Hid (∀ k acc, k < l.length → l.getD k 0 = 39 → k + 1 < l.length → l.getD (k + 1) 0 = 39 → quoteEnd l k acc = quoteEnd l (k + 2) (acc ++ [39])) := fun k acc h h2 h3 h4 => quoteEnd_two h h2 h3 h4
  have HONE : Hid (∀ k acc, k < l.length → l.getD k 0 = 39 → ¬ (k + 1 < l.length ∧ l.getD (k + 1) 0 = 39) → quoteEnd l k acc = some (acc, k + 1)) := fun k acc h h2 h3 => quoteEnd_one h h2 h3
  have HSTEP : Hid (∀ k acc, k < l.length → ¬ l.getD k 0 = 10 → ¬ l.getD k 0 = 39 → quoteEnd l k acc = quoteEnd l (k + 1) (acc ++ [l.getD k 0])) := fun k acc h h2 h3 => quoteEnd_step h h2 h3
  obtain ⟨E, hE⟩ : ∃ E, E = quoteEnd l (i + 1) [] := ⟨_, rfl⟩
  have HE := Lib.hid hE
  clear hE hv' hn hcell hr hi
  go_enter Tryd.func132, Tryd.ntmps132
  go_wp2
  generalize (w.alloc (.cells #[.int .i64 0, .int .i64 0, .float .f64 0, .slice none 0 0, .string ⟨#[]⟩, .int .i32 0] 136)).alloc (.cells #[.int .i64 2, .int .i64 (i : Int), .float .f64 0, .slice none 0 0, .string ⟨#[]⟩, .int .i32 0] 136) = W at *
  go_loopw [8] (fun f wr => ∃ (k : Nat) (acc : List Int) (tv : Value), i + 1 ≤ k ∧ k ≤ n ∧ f = .int .i64 (k : Int) ∧ acc.length ≤ k ∧ QS w i acc tv wr ∧ Hid (E = quoteEnd l k acc)) (fun f _ => n - (intOf f).toNat)
  case atStart => exact ⟨i + 1, [], _, Nat.le_refl _, by omega, by go_num, by simp, HQ0.out, HE.out⟩
  case round =>
    obtain ⟨k, acc, tv, hik, hkn, rfl, hacc, hq, hE⟩ := hrel
    have HQ := Lib.hid hq
    have HEE := Lib.hid hE.out
    clear hE
    by_cases hlt : k < n
    · have hkl : k < l.length := by have := HN.out; omega
      obtain ⟨b, o, rfl, hce⟩ := HC.out k hkl
      have hce2 := hce _ hq.below
      clear hce
      obtain ⟨x, hx⟩ : ∃ x, x = l.getD k 0 := ⟨_, rfl⟩
      rw [← hx] at hce2
      have HX := Lib.hid hx
      clear hx
      have HBZ : Hid (∀ u0 u1 u2 u3 u4 u5, Below w.heap.size w (set6 wr w.heap.size u0 u1 u2 u3 u4 u5)) := fun u0 u1 u2 u3 u4 u5 => set6_below hq.below _ (Nat.le_refl _) u0 u1 u2 u3 u4 u5
      have HR6 := Lib.hid hq.r
      have hf0 := hq.f0
      obtain ⟨v0, r0⟩ := hq.r 0 (by omega); obtain ⟨v1, r1⟩ := hq.r 1 (by omega); obtain ⟨v2, r2⟩ := hq.r 2 (by omega); obtain ⟨v3, r3⟩ := hq.r 3 (by omega); obtain ⟨v4, r4⟩ := hq.r 4 (by omega); obtain ⟨v5, r5⟩ := hq.r 5 (by omega)
      by_cases h10 : x = 10
      · have HT : Hid (E = none) := by unfold Hid; rw [HEE.out, HNL.out k acc hkl (by rw [← HX.out]; exact h10)]
        have HT2 : Hid (quotedS l i = none) := quotedS_none (by rw [← HE.out]; exact HT.out)
        subst h10
        clear hq
        go_wp2
        obtain ⟨q0, q1, q2, q3, q4, q5⟩ := set6_cells wr w.heap.size (.int .i64 0) (.int .i64 0) (.float .f64 0) (.slice none 0 0) (.string ⟨#[]⟩) (.int .i32 0) HR6.out
        unfold set6 at q0 q1 q2 q3 q4 q5
        refine bodyPost_ret (v := .tuple #[tok0V, .int .i64 (i : Int), .bool false]) (by simp [results, Tryd.results132, go_sem, tok0V, q0, q1, q2, q3, q4, q5]) rfl ⟨.no HT2.out, HBZ.out _ _ _ _ _ _⟩
      · by_cases h39 : x = 39
        · by_cases hb2 : k + 1 < l.length ∧ l.getD (k + 1) 0 = 39
          · have HT : Hid (E = quoteEnd l (k + 2) (acc ++ [39])) := by unfold Hid; rw [HEE.out, HTWO.out k acc hkl (by rw [← HX.out]; exact h39) hb2.1 hb2.2]
            obtain ⟨b', o', hA, hce⟩ := HC.out (k + 1) hb2.1
            obtain ⟨rfl, rfl⟩ : b = b' ∧ o = o' := by simpa using hA
            have hce4 := hce _ hq.below
            rw [hb2.2] at hce4
            have hkn2 : k + 1 < n := by have := HN.out; omega
            have hkn3 : ((k : Int) + 1 == (n : Int)) = false := by simp; omega
            have ht3 := hq.t3
            have hsz := hq.sz
            have HSTE : Hid (∀ v' w', OwnR w' (w.heap.size + 2) v' (acc ++ [39]) → Below (w.heap.size + 2) wr w' → QS w i (acc ++ [39]) v' (w'.setCell ⟨w.heap.size + 1, 3, none⟩ v')) := fun v' w' h1 h2 => hq.step h1 h2
            have HOW := Lib.hid hq.own
            have hT : ∀ w', Below (w.heap.size + 2) wr w' → w'.cell? ⟨w.heap.size + 1, 3, none⟩ = some tv ∧ w'.frozen? ⟨w.heap.size + 1, 3, none⟩ = false := fun w' hb =>
              ⟨(hb.cell (p := ⟨w.heap.size + 1, 3, none⟩) (by simp)).trans hq.t3, (hb.frozen (p := ⟨w.heap.size + 1, 3, none⟩) (by simp)).trans (hq.f1 3)⟩
            have HTT := Lib.hid hT
            have HL1 : Hid (acc.length ≤ 1099511627776) := by unfold Hid; omega
            subst h39
            clear hb2 hq hT hce hA HBZ HR6 hf0 r0 r1 r2 r3 r4 r5 h10
            go_wp2_with (at_builtin; refine wpList_app2 rfl (.tmp 57) (.tmp 58) rfl (w.heap.size + 2) tv acc (by rfl) HOW.out 39 (by rfl) HL1.out hsz ?_; intro av nn cv w' ho' hb'; have HBB := Lib.hid (hb' wr (Below.refl _ wr)); have hT' := HTT.out w' HBB.out; have hT1 := hT'.1; have hT2 := hT'.2; have HQ' := Lib.hid (HSTE.out _ w' ho' HBB.out); clear hT' hb' ho')
            go_roundw
            case rel => exact ⟨k + 2, acc ++ [39], _, by omega, by omega, by go_num, by simp; omega, HQ'.out, HT.out⟩
            case measure => simp [intOf]; omega
          · have HT : Hid (E = some (acc, k + 1)) := by unfold Hid; rw [HEE.out, HONE.out k acc hkl (by rw [← HX.out]; exact h39) hb2]
            have HT2 : Hid (quotedS l i = some ({ kind := 2, at_ := i, text := acc }, k + 1)) := quotedS_some (by rw [← HE.out]; exact HT.out)
            have t0 := hq.t0; have t1 := hq.t1; have t2 := hq.t2; have t3 := hq.t3; have t4 := hq.t4; have t5 := hq.t5
            have HOW : Hid (∀ u0 u1 u2 u3 u4 u5, OwnR (set6 wr w.heap.size u0 u1 u2 u3 u4 u5) w.heap.size tv acc) := fun u0 u1 u2 u3 u4 u5 => (set6_own hq.own _ (by omega) u0 u1 u2 u3 u4 u5).lower (by omega)
            obtain ⟨atv, ctv, htv⟩ := hq.own.len
            obtain ⟨ntv, hntv⟩ : ∃ ntv, ntv = acc.length := ⟨_, rfl⟩
            rw [← hntv] at htv
            subst htv
            subst h39
            have hkn4 : k + 1 ≤ n := by omega
            by_cases hkn2 : k + 1 < n
            · obtain ⟨b', o', hA, hce⟩ := HC.out (k + 1) (by have := HN.out; omega)
              obtain ⟨rfl, rfl⟩ : b = b' ∧ o = o' := by simpa using hA
              have hce4 := hce _ hq.below
              obtain ⟨y, hy⟩ : ∃ y, y = l.getD (k + 1) 0 := ⟨_, rfl⟩
              have hy39 : ¬ y = 39 := fun e => hb2 ⟨by have := HN.out; omega, by rw [← hy]; exact e⟩
              have hy40 : (y != 39) = true := by simpa using hy39
              rw [← hy] at hce4
              have hkn3 : ((k : Int) + 1 == (n : Int)) = false := by simp; omega
              clear hb2 hq hce hA hy hy39 hntv h10
              go_wp2
              obtain ⟨q0, q1, q2, q3, q4, q5⟩ := set6_cells wr w.heap.size (.int .i64 2) (.int .i64 i) (.float .f64 0) (.slice atv ntv ctv) (.string ⟨#[]⟩) (.int .i32 0) HR6.out
              unfold set6 at q0 q1 q2 q3 q4 q5
              refine bodyPost_ret (v := .tuple #[tokV { kind := 2, at_ := i, text := acc } (.slice atv ntv ctv), .int .i64 ((k + 1 : Nat) : Int), .bool true]) (by simp [results, Tryd.results132, go_sem, tokV, q0, q1, q2, q3, q4, q5]) rfl ⟨.yes HT2.out (HOW.out _ _ _ _ _ _), HBZ.out _ _ _ _ _ _⟩
            · have hkn3 : ((k : Int) + 1 == (n : Int)) = true := by simp; omega
              clear hb2 hq hntv h10
              go_wp2
              obtain ⟨q0, q1, q2, q3, q4, q5⟩ := set6_cells wr w.heap.size (.int .i64 2) (.int .i64 i) (.float .f64 0) (.slice atv ntv ctv) (.string ⟨#[]⟩) (.int .i32 0) HR6.out
              unfold set6 at q0 q1 q2 q3 q4 q5
              refine bodyPost_ret (v := .tuple #[tokV { kind := 2, at_ := i, text := acc } (.slice atv ntv ctv), .int .i64 ((k + 1 : Nat) : Int), .bool true]) (by simp [results, Tryd.results132, go_sem, tokV, q0, q1, q2, q3, q4, q5]) rfl ⟨.yes HT2.out (HOW.out _ _ _ _ _ _), HBZ.out _ _ _ _ _ _⟩
        · have HT : Hid (E = quoteEnd l (k + 1) (acc ++ [x])) := by unfold Hid; rw [HEE.out, HSTEP.out k acc hkl (by rw [← HX.out]; exact h10) (by rw [← HX.out]; exact h39), ← HX.out]
          have h11 : (x != 10) = true := by simpa using h10
          have h40 : (x != 39) = true := by simpa using h39
          have ht3 : wr.drew.cell? ⟨w.heap.size + 1, 3, none⟩ = some tv := hq.t3
          have hce3 : wr.drew.cell? ⟨b, o + k, none⟩ = some (.int .i32 x) := hce2
          have hsz := hq.sz
          have hlt1 : w.heap.size + 1 < wr.heap.size := by omega
          have hlt2 : b < wr.heap.size := cell_lt hce2
          have ht4 := hq.t3
          have HSTE : Hid (∀ v' w', OwnR w' (w.heap.size + 2) v' (acc ++ [x]) → Below (w.heap.size + 2) wr w' → QS w i (acc ++ [x]) v' (w'.setCell ⟨w.heap.size + 1, 3, none⟩ v')) := fun v' w' h1 h2 => hq.step h1 h2
          have HOW := Lib.hid hq.own
          have hT : ∀ w', Below (w.heap.size + 2) wr w' → w'.cell? ⟨w.heap.size + 1, 3, none⟩ = some tv ∧ w'.frozen? ⟨w.heap.size + 1, 3, none⟩ = false := fun w' hb =>
            ⟨(hb.cell (p := ⟨w.heap.size + 1, 3, none⟩) (by simp)).trans hq.t3, (hb.frozen (p := ⟨w.heap.size + 1, 3, none⟩) (by simp)).trans (hq.f1 3)⟩
          have HTT := Lib.hid hT
          clear h10 h39 hq hT
          go_wp2_with fail
          go_region_law (refine step_app1 rfl (.tmp 32) (.tmp 37) rfl (w.heap.size + 2) tv acc (by rfl) (OwnR.alloc HOW.out _) x _ (by rfl) (World.cell?_alloc_at _ _ _ _ (by rfl)) (by omega) (by simp; omega) ?_; intro av nn cv w' ho' hb' hs'; have HBB := Lib.hid (hb' wr (((Below.refl _ wr).drew).alloc hsz _)); have hT' := HTT.out w' HBB.out; have hT1 := hT'.1; have hT2 := hT'.2; have HQ' := Lib.hid (HSTE.out _ w' ho' HBB.out); clear hT' hb' ho')
          all_goals
            go_wp2_with fail
            go_roundw
            case rel => exact ⟨k + 1, acc ++ [x], _, by omega, by omega, by go_num, by simp; omega, HQ'.out, HT.out⟩
            case measure => simp [intOf]; omega
    · have HT : Hid (E = none) := by unfold Hid; rw [HEE.out, HOUT.out k acc (by have := HN.out; omega)]
      have HT2 : Hid (quotedS l i = none) := quotedS_none (by rw [← HE.out]; exact HT.out)
      have HBZ : Hid (∀ u0 u1 u2 u3 u4 u5, Below w.heap.size w (set6 wr w.heap.size u0 u1 u2 u3 u4 u5)) := fun u0 u1 u2 u3 u4 u5 => set6_below hq.below _ (Nat.le_refl _) u0 u1 u2 u3 u4 u5
      have HR6 := Lib.hid hq.r
      have hf0 := hq.f0
      obtain ⟨v0, r0⟩ := hq.r 0 (by omega); obtain ⟨v1, r1⟩ := hq.r 1 (by omega); obtain ⟨v2, r2⟩ := hq.r 2 (by omega); obtain ⟨v3, r3⟩ := hq.r 3 (by omega); obtain ⟨v4, r4⟩ := hq.r 4 (by omega); obtain ⟨v5, r5⟩ := hq.r 5 (by omega)
      clear hq
      go_wp2
      obtain ⟨q0, q1, q2, q3, q4, q5⟩ := set6_cells wr w.heap.size (.int .i64 0) (.int .i64 0) (.float .f64 0) (.slice none 0 0) (.string ⟨#[]⟩) (.int .i32 0) HR6.out
      unfold set6 at q0 q1 q2 q3 q4 q5
      refine bodyPost_ret (v := .tuple #[tok0V, .int .i64 (i : Int), .bool false]) (by simp [results, Tryd.results132, go_sem, tok0V, q0, q1, q2, q3, q4, q5]) rfl ⟨.no HT2.out, HBZ.out _ _ _ _ _ _⟩
end Go.Proofs.YtnhnaallalgefaaDoor
