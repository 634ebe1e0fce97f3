/- The walk of lex.word. Conditions: at most 4096 signs. -/
import Derived.Test.YtnhnaallalgefaaDoorLexH
namespace Go.Proofs.YtnhnaallalgefaaDoor
open Go Go.RowKit Go.Proofs Fl

/-- the memory of lex.word: its result and its word -/
structure WS (w : World) (i c : Int) (wr : World) : Prop where
  below : Below w.heap.size w wr
  sz : w.heap.size + 2 ≤ wr.heap.size
  t0 : wr.cell? ⟨w.heap.size + 1, 0, none⟩ = some (.int .i64 0)
  t1 : wr.cell? ⟨w.heap.size + 1, 1, none⟩ = some (.int .i64 i)
  t2 : wr.cell? ⟨w.heap.size + 1, 2, none⟩ = some (.float .f64 0)
  t3 : wr.cell? ⟨w.heap.size + 1, 3, none⟩ = some (.slice none 0 0)
  t4 : wr.cell? ⟨w.heap.size + 1, 4, none⟩ = some (.string ⟨#[]⟩)
  t5 : wr.cell? ⟨w.heap.size + 1, 5, none⟩ = some (.int .i32 c)
  r : ∀ j, j < 6 → ∃ v, wr.cell? ⟨w.heap.size, j, none⟩ = some v
  f0 : ∀ j, wr.frozen? ⟨w.heap.size, j, none⟩ = false
  f1 : ∀ j, wr.frozen? ⟨w.heap.size + 1, j, none⟩ = false

theorem WS.step {w wr w' : World} {i c : Int} (h : WS w i c wr) (hb : Below wr.heap.size wr w') : WS w i c w' := by
  have hz := h.sz
  have c1 : ∀ j, w'.cell? ⟨w.heap.size + 1, j, none⟩ = wr.cell? ⟨w.heap.size + 1, j, none⟩ := fun j => hb.cell (p := ⟨w.heap.size + 1, j, none⟩) (by simp; omega)
  have c0 : ∀ j, w'.cell? ⟨w.heap.size, j, none⟩ = wr.cell? ⟨w.heap.size, j, none⟩ := fun j => hb.cell (p := ⟨w.heap.size, j, none⟩) (by simp; omega)
  have g1 : ∀ j, w'.frozen? ⟨w.heap.size + 1, j, none⟩ = wr.frozen? ⟨w.heap.size + 1, j, none⟩ := fun j => hb.frozen (p := ⟨w.heap.size + 1, j, none⟩) (by simp; omega)
  have g0 : ∀ j, w'.frozen? ⟨w.heap.size, j, none⟩ = wr.frozen? ⟨w.heap.size, j, none⟩ := fun j => hb.frozen (p := ⟨w.heap.size, j, none⟩) (by simp; omega)
  exact ⟨h.below.trans (hb.mono h.below.size), by have := hb.size; omega, (c1 0).trans h.t0, (c1 1).trans h.t1, (c1 2).trans h.t2, (c1 3).trans h.t3, (c1 4).trans h.t4, (c1 5).trans h.t5,
    fun j hj => by rw [c0]; exact h.r j hj, fun j => by rw [g0]; exact h.f0 j, fun j => by rw [g1]; exact h.f1 j⟩

theorem WS.start (w : World) (i c : Int) : WS w i c ((w.alloc (.cells #[.int .i64 0, .int .i64 0, .float .f64 0, .slice none 0 0, .string ⟨#[]⟩, .int .i32 0] 136)).alloc (.cells #[.int .i64 0, .int .i64 i, .float .f64 0, .slice none 0 0, .string ⟨#[]⟩, .int .i32 c] 136)) := by
  refine ⟨((Below.refl _ w).alloc (Nat.le_refl _) _).alloc (by simp) _, by simp, ?_, ?_, ?_, ?_, ?_, ?_, ?_, ?_, ?_⟩
  all_goals try (rw [World.cell?_alloc_at _ _ _ _ (by simp)]; rfl)
  · intro j hj
    rw [World.cell?_alloc_past _ _ _ (by simp), World.cell?_alloc_at _ _ _ _ rfl]
    rcases (show j = 0 ∨ j = 1 ∨ j = 2 ∨ j = 3 ∨ j = 4 ∨ j = 5 by omega) with rfl | rfl | rfl | rfl | rfl | rfl
    all_goals exact ⟨_, rfl⟩
  · intro j; rw [World.frozen?_alloc_past _ _ _ (by simp), World.frozen?_alloc_at _ _ _ _ rfl]
  · intro j; rw [World.frozen?_alloc_at _ _ _ _ (by simp)]

/-- what a cut word tells, its text's slice written out -/
theorem TokTells.open_ {r : Option (Tok × Nat)} {i B : Nat} {e : Ending} {w' : World} (h : TokTells r i B e w') :
    (r = none ∧ e = .returned (.tuple #[tok0V, .int .i64 (i : Int), .bool false])) ∨
    ∃ t k a n c, r = some (t, k) ∧ e = .returned (.tuple #[tokV t (.slice a n c), .int .i64 (k : Int), .bool true]) ∧ OwnR w' B (.slice a n c) t.text := by
  cases r with
  | none => exact .inl ⟨rfl, h⟩
  | some p =>
    obtain ⟨t, k⟩ := p
    obtain ⟨tv, he, ho⟩ := h
    obtain ⟨a, c, rfl⟩ := ho.len
    exact .inr ⟨t, k, a, _, c, rfl, he, ho⟩

set_option maxRecDepth 100000 in
set_option maxHeartbeats 3200000 in
theorem word_dig (A : Option Addr) (n cc : Nat) (l : List Int) (i : Nat) (w : World) (hr : Runes w (.slice A n cc) l) (hl : l.length ≤ 4096) (hi : i < l.length) (c : Int) (hc : l.getD i 0 = c) (hd : digB c = true) :
    Calls Tryd.prog 103 #[.slice A n cc, .int .i64 (i : Int)] w fun e w' => TokTells (numberS l i) i w.heap.size e w' ∧ Below w.heap.size w w' := by
  have HCALL : Hid (∀ w', Below w.heap.size w w' → Calls Tryd.prog 131 #[.slice A n cc, .int .i64 (i : Int)] w' fun e w2 => TokTells (numberS l i) i w'.heap.size e w2 ∧ Below w'.heap.size w' w2) := fun w' hb => number_walk A n cc l i w' (hr.below hb) hl hi
  obtain ⟨A', cc', n', hv', hn, hcell⟩ := hr.opn
  obtain ⟨rfl, rfl, rfl⟩ : A = A' ∧ n = n' ∧ cc = cc' := by simpa using hv'
  have hn4 : n ≤ 4096 := by omega
  have hin : i < n := by omega
  have hsf := st_float
  obtain ⟨b, o, rfl, hce⟩ := hcell i hi
  rw [hc] at hce
  have hce0 := hce _ (Below.refl _ _)
  have hlt := cell_lt hce0
  have HWS0 := Lib.hid (WS.start w i c)
  have HDG : Hid (∀ w, Calls Tryd.prog 130 #[.int .i32 c] w fun e w' => e = .returned (.bool (digB c)) ∧ w = w') := digit_walk c
  have HLT : Hid (∀ w, Calls Tryd.prog 133 #[.int .i32 c] w fun e w' => e = .returned (.bool (letB c)) ∧ w = w') := letter_walk c
  rw [hd] at HDG
  clear hd
  clear hv' hn hcell hce hr hi hl hc
  go_enter Tryd.func103, Tryd.ntmps103
  go_wp2_with fail
  generalize (w.alloc (.cells #[.int .i64 0, .int .i64 0, .float .f64 0, .slice none 0 0, .string ⟨#[]⟩, .int .i32 0] 136)).alloc (.cells #[.int .i64 0, .int .i64 (i : Int), .float .f64 0, .slice none 0 0, .string ⟨#[]⟩, .int .i32 c] 136) = W at *
  refine (HDG.out _).mono ?_
  rintro e w' ⟨rfl, rfl⟩
  go_wp2_with fail
  refine (HCALL.out _ HWS0.out.below).mono ?_
  rintro e w1 ⟨ht, hb⟩
  have HWS := Lib.hid (HWS0.out.step hb)
  have HSZ := Lib.hid HWS0.out.sz
  clear hb HCALL
  have HBZ : Hid (∀ u0 u1 u2 u3 u4 u5, Below w.heap.size w (set6 w1 w.heap.size u0 u1 u2 u3 u4 u5)) := fun u0 u1 u2 u3 u4 u5 => set6_below HWS.out.below _ (Nat.le_refl _) u0 u1 u2 u3 u4 u5
  have HR6 := Lib.hid HWS.out.r
  have hf0 := HWS.out.f0
  obtain ⟨v0, r0⟩ := HWS.out.r 0 (by omega); obtain ⟨v1, r1⟩ := HWS.out.r 1 (by omega); obtain ⟨v2, r2⟩ := HWS.out.r 2 (by omega); obtain ⟨v3, r3⟩ := HWS.out.r 3 (by omega); obtain ⟨v4, r4⟩ := HWS.out.r 4 (by omega); obtain ⟨v5, r5⟩ := HWS.out.r 5 (by omega)
  rcases ht.open_ with ⟨hn, rfl⟩ | ⟨t, k, a, m, cv, hs, rfl, ho⟩
  · have HT := Lib.hid hn
    clear hn ht
    simp only [tok0V]
    go_wp2
    obtain ⟨q0, q1, q2, q3, q4, q5⟩ := set6_cells w1 w.heap.size (.int .i64 0) (.int .i64 0) (.float .f64 0) (.slice none 0 0) (.string ⟨#[]⟩) (.int .i32 0) HR6.out
    unfold set6 at q0 q1 q2 q3 q4 q5
    refine bodyPost_ret (v := .tuple #[tok0V, .int .i64 (i : Int), .bool false]) (by simp [results, Tryd.results103, go_sem, tok0V, q0, q1, q2, q3, q4, q5]) rfl ⟨.no HT.out, HBZ.out _ _ _ _ _ _⟩
  · have HT := Lib.hid hs
    have HOW : Hid (∀ u0 u1 u2 u3 u4 u5, OwnR (set6 w1 w.heap.size u0 u1 u2 u3 u4 u5) w.heap.size (.slice a m cv) t.text) := fun u0 u1 u2 u3 u4 u5 => (set6_own ho _ (by have := HSZ.out; omega) u0 u1 u2 u3 u4 u5).lower (by have := HSZ.out; omega)
    clear hs ht ho
    simp only [tokV]
    go_wp2
    obtain ⟨q0, q1, q2, q3, q4, q5⟩ := set6_cells w1 w.heap.size (.int .i64 t.kind) (.int .i64 t.at_) (.float .f64 t.num) (.slice a m cv) (.string t.name) (.int .i32 t.char) HR6.out
    unfold set6 at q0 q1 q2 q3 q4 q5
    refine bodyPost_ret (v := .tuple #[tokV t (.slice a m cv), .int .i64 (k : Int), .bool true]) (by simp [results, Tryd.results103, go_sem, tokV, q0, q1, q2, q3, q4, q5]) rfl ⟨.yes HT.out (HOW.out _ _ _ _ _ _), HBZ.out _ _ _ _ _ _⟩

set_option maxRecDepth 100000 in
set_option maxHeartbeats 3200000 in
theorem word_high (A : Option Addr) (n cc : Nat) (l : List Int) (i : Nat) (w : World) (hr : Runes w (.slice A n cc) l) (hl : l.length ≤ 4096) (hi : i < l.length) (c : Int) (hc : l.getD i 0 = c) (hd : digB c = false) (h175 : c = 175) :
    Calls Tryd.prog 103 #[.slice A n cc, .int .i64 (i : Int)] w fun e w' => TokTells (numberS l i) i w.heap.size e w' ∧ Below w.heap.size w w' := by
  have HCALL : Hid (∀ w', Below w.heap.size w w' → Calls Tryd.prog 131 #[.slice A n cc, .int .i64 (i : Int)] w' fun e w2 => TokTells (numberS l i) i w'.heap.size e w2 ∧ Below w'.heap.size w' w2) := fun w' hb => number_walk A n cc l i w' (hr.below hb) hl hi
  obtain ⟨A', cc', n', hv', hn, hcell⟩ := hr.opn
  obtain ⟨rfl, rfl, rfl⟩ : A = A' ∧ n = n' ∧ cc = cc' := by simpa using hv'
  have hn4 : n ≤ 4096 := by omega
  have hin : i < n := by omega
  have hsf := st_float
  obtain ⟨b, o, rfl, hce⟩ := hcell i hi
  rw [hc] at hce
  have hce0 := hce _ (Below.refl _ _)
  have hlt := cell_lt hce0
  have HWS0 := Lib.hid (WS.start w i c)
  have HDG : Hid (∀ w, Calls Tryd.prog 130 #[.int .i32 c] w fun e w' => e = .returned (.bool (digB c)) ∧ w = w') := digit_walk c
  have HLT : Hid (∀ w, Calls Tryd.prog 133 #[.int .i32 c] w fun e w' => e = .returned (.bool (letB c)) ∧ w = w') := letter_walk c
  rw [hd] at HDG
  clear hd
  subst h175
  clear hv' hn hcell hce hr hi hl hc
  go_enter Tryd.func103, Tryd.ntmps103
  go_wp2_with fail
  generalize (w.alloc (.cells #[.int .i64 0, .int .i64 0, .float .f64 0, .slice none 0 0, .string ⟨#[]⟩, .int .i32 0] 136)).alloc (.cells #[.int .i64 0, .int .i64 (i : Int), .float .f64 0, .slice none 0 0, .string ⟨#[]⟩, .int .i32 175] 136) = W at *
  refine (HDG.out _).mono ?_
  rintro e w' ⟨rfl, rfl⟩
  go_wp2_with fail
  refine (HCALL.out _ HWS0.out.below).mono ?_
  rintro e w1 ⟨ht, hb⟩
  have HWS := Lib.hid (HWS0.out.step hb)
  have HSZ := Lib.hid HWS0.out.sz
  clear hb HCALL
  have HBZ : Hid (∀ u0 u1 u2 u3 u4 u5, Below w.heap.size w (set6 w1 w.heap.size u0 u1 u2 u3 u4 u5)) := fun u0 u1 u2 u3 u4 u5 => set6_below HWS.out.below _ (Nat.le_refl _) u0 u1 u2 u3 u4 u5
  have HR6 := Lib.hid HWS.out.r
  have hf0 := HWS.out.f0
  obtain ⟨v0, r0⟩ := HWS.out.r 0 (by omega); obtain ⟨v1, r1⟩ := HWS.out.r 1 (by omega); obtain ⟨v2, r2⟩ := HWS.out.r 2 (by omega); obtain ⟨v3, r3⟩ := HWS.out.r 3 (by omega); obtain ⟨v4, r4⟩ := HWS.out.r 4 (by omega); obtain ⟨v5, r5⟩ := HWS.out.r 5 (by omega)
  rcases ht.open_ with ⟨hn, rfl⟩ | ⟨t, k, a, m, cv, hs, rfl, ho⟩
  · have HT := Lib.hid hn
    clear hn ht
    simp only [tok0V]
    go_wp2
    obtain ⟨q0, q1, q2, q3, q4, q5⟩ := set6_cells w1 w.heap.size (.int .i64 0) (.int .i64 0) (.float .f64 0) (.slice none 0 0) (.string ⟨#[]⟩) (.int .i32 0) HR6.out
    unfold set6 at q0 q1 q2 q3 q4 q5
    refine bodyPost_ret (v := .tuple #[tok0V, .int .i64 (i : Int), .bool false]) (by simp [results, Tryd.results103, go_sem, tok0V, q0, q1, q2, q3, q4, q5]) rfl ⟨.no HT.out, HBZ.out _ _ _ _ _ _⟩
  · have HT := Lib.hid hs
    have HOW : Hid (∀ u0 u1 u2 u3 u4 u5, OwnR (set6 w1 w.heap.size u0 u1 u2 u3 u4 u5) w.heap.size (.slice a m cv) t.text) := fun u0 u1 u2 u3 u4 u5 => (set6_own ho _ (by have := HSZ.out; omega) u0 u1 u2 u3 u4 u5).lower (by have := HSZ.out; omega)
    clear hs ht ho
    simp only [tokV]
    go_wp2
    obtain ⟨q0, q1, q2, q3, q4, q5⟩ := set6_cells w1 w.heap.size (.int .i64 t.kind) (.int .i64 t.at_) (.float .f64 t.num) (.slice a m cv) (.string t.name) (.int .i32 t.char) HR6.out
    unfold set6 at q0 q1 q2 q3 q4 q5
    refine bodyPost_ret (v := .tuple #[tokV t (.slice a m cv), .int .i64 (k : Int), .bool true]) (by simp [results, Tryd.results103, go_sem, tokV, q0, q1, q2, q3, q4, q5]) rfl ⟨.yes HT.out (HOW.out _ _ _ _ _ _), HBZ.out _ _ _ _ _ _⟩

set_option maxRecDepth 100000 in
set_option maxHeartbeats 3200000 in
theorem word_quote (A : Option Addr) (n cc : Nat) (l : List Int) (i : Nat) (w : World) (hr : Runes w (.slice A n cc) l) (hl : l.length ≤ 4096) (hi : i < l.length) (c : Int) (hc : l.getD i 0 = c) (hd : digB c = false) (h39 : c = 39) :
    Calls Tryd.prog 103 #[.slice A n cc, .int .i64 (i : Int)] w fun e w' => TokTells (quotedS l i) i w.heap.size e w' ∧ Below w.heap.size w w' := by
  have HCALL : Hid (∀ w', Below w.heap.size w w' → Calls Tryd.prog 132 #[.slice A n cc, .int .i64 (i : Int)] w' fun e w2 => TokTells (quotedS l i) i w'.heap.size e w2 ∧ Below w'.heap.size w' w2) := fun w' hb => quoted_walk A n cc l i w' (hr.below hb) hl hi
  obtain ⟨A', cc', n', hv', hn, hcell⟩ := hr.opn
  obtain ⟨rfl, rfl, rfl⟩ : A = A' ∧ n = n' ∧ cc = cc' := by simpa using hv'
  have hn4 : n ≤ 4096 := by omega
  have hin : i < n := by omega
  have hsf := st_float
  obtain ⟨b, o, rfl, hce⟩ := hcell i hi
  rw [hc] at hce
  have hce0 := hce _ (Below.refl _ _)
  have hlt := cell_lt hce0
  have HWS0 := Lib.hid (WS.start w i c)
  have HDG : Hid (∀ w, Calls Tryd.prog 130 #[.int .i32 c] w fun e w' => e = .returned (.bool (digB c)) ∧ w = w') := digit_walk c
  have HLT : Hid (∀ w, Calls Tryd.prog 133 #[.int .i32 c] w fun e w' => e = .returned (.bool (letB c)) ∧ w = w') := letter_walk c
  rw [hd] at HDG
  clear hd
  subst h39
  clear hv' hn hcell hce hr hi hl hc
  go_enter Tryd.func103, Tryd.ntmps103
  go_wp2_with fail
  generalize (w.alloc (.cells #[.int .i64 0, .int .i64 0, .float .f64 0, .slice none 0 0, .string ⟨#[]⟩, .int .i32 0] 136)).alloc (.cells #[.int .i64 0, .int .i64 (i : Int), .float .f64 0, .slice none 0 0, .string ⟨#[]⟩, .int .i32 39] 136) = W at *
  refine (HDG.out _).mono ?_
  rintro e w' ⟨rfl, rfl⟩
  go_wp2_with fail
  refine (HCALL.out _ HWS0.out.below).mono ?_
  rintro e w1 ⟨ht, hb⟩
  have HWS := Lib.hid (HWS0.out.step hb)
  have HSZ := Lib.hid HWS0.out.sz
  clear hb HCALL
  have HBZ : Hid (∀ u0 u1 u2 u3 u4 u5, Below w.heap.size w (set6 w1 w.heap.size u0 u1 u2 u3 u4 u5)) := fun u0 u1 u2 u3 u4 u5 => set6_below HWS.out.below _ (Nat.le_refl _) u0 u1 u2 u3 u4 u5
  have HR6 := Lib.hid HWS.out.r
  have hf0 := HWS.out.f0
  obtain ⟨v0, r0⟩ := HWS.out.r 0 (by omega); obtain ⟨v1, r1⟩ := HWS.out.r 1 (by omega); obtain ⟨v2, r2⟩ := HWS.out.r 2 (by omega); obtain ⟨v3, r3⟩ := HWS.out.r 3 (by omega); obtain ⟨v4, r4⟩ := HWS.out.r 4 (by omega); obtain ⟨v5, r5⟩ := HWS.out.r 5 (by omega)
  rcases ht.open_ with ⟨hn, rfl⟩ | ⟨t, k, a, m, cv, hs, rfl, ho⟩
  · have HT := Lib.hid hn
    clear hn ht
    simp only [tok0V]
    go_wp2
    obtain ⟨q0, q1, q2, q3, q4, q5⟩ := set6_cells w1 w.heap.size (.int .i64 0) (.int .i64 0) (.float .f64 0) (.slice none 0 0) (.string ⟨#[]⟩) (.int .i32 0) HR6.out
    unfold set6 at q0 q1 q2 q3 q4 q5
    refine bodyPost_ret (v := .tuple #[tok0V, .int .i64 (i : Int), .bool false]) (by simp [results, Tryd.results103, go_sem, tok0V, q0, q1, q2, q3, q4, q5]) rfl ⟨.no HT.out, HBZ.out _ _ _ _ _ _⟩
  · have HT := Lib.hid hs
    have HOW : Hid (∀ u0 u1 u2 u3 u4 u5, OwnR (set6 w1 w.heap.size u0 u1 u2 u3 u4 u5) w.heap.size (.slice a m cv) t.text) := fun u0 u1 u2 u3 u4 u5 => (set6_own ho _ (by have := HSZ.out; omega) u0 u1 u2 u3 u4 u5).lower (by have := HSZ.out; omega)
    clear hs ht ho
    simp only [tokV]
    go_wp2
    obtain ⟨q0, q1, q2, q3, q4, q5⟩ := set6_cells w1 w.heap.size (.int .i64 t.kind) (.int .i64 t.at_) (.float .f64 t.num) (.slice a m cv) (.string t.name) (.int .i32 t.char) HR6.out
    unfold set6 at q0 q1 q2 q3 q4 q5
    refine bodyPost_ret (v := .tuple #[tokV t (.slice a m cv), .int .i64 (k : Int), .bool true]) (by simp [results, Tryd.results103, go_sem, tokV, q0, q1, q2, q3, q4, q5]) rfl ⟨.yes HT.out (HOW.out _ _ _ _ _ _), HBZ.out _ _ _ _ _ _⟩

set_option maxRecDepth 100000 in
set_option maxHeartbeats 3200000 in
theorem word_name (A : Option Addr) (n cc : Nat) (l : List Int) (i : Nat) (w : World) (hr : Runes w (.slice A n cc) l) (hcc : n ≤ cc) (hl : l.length ≤ 4096) (hi : i < l.length) (c : Int) (hc : l.getD i 0 = c) (hd : digB c = false) (h175 : (c == 175) = false) (h39 : (c == 39) = false) (hlt0 : letB c = true) :
    Calls Tryd.prog 103 #[.slice A n cc, .int .i64 (i : Int)] w fun e w' => TokTells (nameS l i) i w.heap.size e w' ∧ Below w.heap.size w w' := by
  have HCALL : Hid (∀ w', Below w.heap.size w w' → Calls Tryd.prog 134 #[.slice A n cc, .int .i64 (i : Int)] w' fun e w2 => TokTells (nameS l i) i w'.heap.size e w2 ∧ Below w'.heap.size w' w2) := fun w' hb => name_walk A n cc l i w' (hr.below hb) hcc hl (by omega)
  obtain ⟨A', cc', n', hv', hn, hcell⟩ := hr.opn
  obtain ⟨rfl, rfl, rfl⟩ : A = A' ∧ n = n' ∧ cc = cc' := by simpa using hv'
  have hn4 : n ≤ 4096 := by omega
  have hin : i < n := by omega
  have hsf := st_float
  obtain ⟨b, o, rfl, hce⟩ := hcell i hi
  rw [hc] at hce
  have hce0 := hce _ (Below.refl _ _)
  have hlt := cell_lt hce0
  have HWS0 := Lib.hid (WS.start w i c)
  have HDG : Hid (∀ w, Calls Tryd.prog 130 #[.int .i32 c] w fun e w' => e = .returned (.bool (digB c)) ∧ w = w') := digit_walk c
  have HLT : Hid (∀ w, Calls Tryd.prog 133 #[.int .i32 c] w fun e w' => e = .returned (.bool (letB c)) ∧ w = w') := letter_walk c
  rw [hd] at HDG
  rw [hlt0] at HLT
  clear hd hlt0
  clear hv' hn hcell hce hr hi hl hc
  go_enter Tryd.func103, Tryd.ntmps103
  go_wp2_with fail
  generalize (w.alloc (.cells #[.int .i64 0, .int .i64 0, .float .f64 0, .slice none 0 0, .string ⟨#[]⟩, .int .i32 0] 136)).alloc (.cells #[.int .i64 0, .int .i64 (i : Int), .float .f64 0, .slice none 0 0, .string ⟨#[]⟩, .int .i32 c] 136) = W at *
  refine (HDG.out _).mono ?_
  rintro e w' ⟨rfl, rfl⟩
  go_wp2_with fail
  refine (HLT.out _).mono ?_
  rintro e w' ⟨rfl, rfl⟩
  go_wp2_with fail
  refine (HCALL.out _ HWS0.out.below).mono ?_
  rintro e w1 ⟨ht, hb⟩
  have HWS := Lib.hid (HWS0.out.step hb)
  have HSZ := Lib.hid HWS0.out.sz
  clear hb HCALL
  have HBZ : Hid (∀ u0 u1 u2 u3 u4 u5, Below w.heap.size w (set6 w1 w.heap.size u0 u1 u2 u3 u4 u5)) := fun u0 u1 u2 u3 u4 u5 => set6_below HWS.out.below _ (Nat.le_refl _) u0 u1 u2 u3 u4 u5
  have HR6 := Lib.hid HWS.out.r
  have hf0 := HWS.out.f0
  obtain ⟨v0, r0⟩ := HWS.out.r 0 (by omega); obtain ⟨v1, r1⟩ := HWS.out.r 1 (by omega); obtain ⟨v2, r2⟩ := HWS.out.r 2 (by omega); obtain ⟨v3, r3⟩ := HWS.out.r 3 (by omega); obtain ⟨v4, r4⟩ := HWS.out.r 4 (by omega); obtain ⟨v5, r5⟩ := HWS.out.r 5 (by omega)
  rcases ht.open_ with ⟨hn, rfl⟩ | ⟨t, k, a, m, cv, hs, rfl, ho⟩
  · have HT := Lib.hid hn
    clear hn ht
    simp only [tok0V]
    go_wp2
    obtain ⟨q0, q1, q2, q3, q4, q5⟩ := set6_cells w1 w.heap.size (.int .i64 0) (.int .i64 0) (.float .f64 0) (.slice none 0 0) (.string ⟨#[]⟩) (.int .i32 0) HR6.out
    unfold set6 at q0 q1 q2 q3 q4 q5
    refine bodyPost_ret (v := .tuple #[tok0V, .int .i64 (i : Int), .bool false]) (by simp [results, Tryd.results103, go_sem, tok0V, q0, q1, q2, q3, q4, q5]) rfl ⟨.no HT.out, HBZ.out _ _ _ _ _ _⟩
  · have HT := Lib.hid hs
    have HOW : Hid (∀ u0 u1 u2 u3 u4 u5, OwnR (set6 w1 w.heap.size u0 u1 u2 u3 u4 u5) w.heap.size (.slice a m cv) t.text) := fun u0 u1 u2 u3 u4 u5 => (set6_own ho _ (by have := HSZ.out; omega) u0 u1 u2 u3 u4 u5).lower (by have := HSZ.out; omega)
    clear hs ht ho
    simp only [tokV]
    go_wp2
    obtain ⟨q0, q1, q2, q3, q4, q5⟩ := set6_cells w1 w.heap.size (.int .i64 t.kind) (.int .i64 t.at_) (.float .f64 t.num) (.slice a m cv) (.string t.name) (.int .i32 t.char) HR6.out
    unfold set6 at q0 q1 q2 q3 q4 q5
    refine bodyPost_ret (v := .tuple #[tokV t (.slice a m cv), .int .i64 (k : Int), .bool true]) (by simp [results, Tryd.results103, go_sem, tokV, q0, q1, q2, q3, q4, q5]) rfl ⟨.yes HT.out (HOW.out _ _ _ _ _ _), HBZ.out _ _ _ _ _ _⟩

end Go.Proofs.YtnhnaallalgefaaDoor
