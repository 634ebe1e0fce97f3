/- The walk of lex.word at signs that are words alone. Conditions: at most 4096 signs. -/
import Derived.Test.YtnhnaallalgefaaDoorLexI
namespace Go.Proofs.YtnhnaallalgefaaDoor
open Go Go.RowKit Go.Proofs Fl

theorem in_at (c : Int) (L : List Int) (s : ByteArray) (w : World) (h : runesOf s = L) : Calls Tryd.prog 135 #[.int .i32 c, .string s] w fun e w' => e = .returned (.bool (decide (c ∈ L))) ∧ Below w.heap.size w w' := by
  rw [← h]; exact in_walk c s w

theorem WS.set {w wr : World} {i c : Int} (h : WS w i c wr) (k : Int) (u0 u1 u2 u3 u4 u5 : Value) : Below w.heap.size w (set6 (wr.setCell ⟨w.heap.size + 1, 0, none⟩ (.int .i64 k)) w.heap.size u0 u1 u2 u3 u4 u5) ∧
    ∀ j, j < 6 → ∃ v, (wr.setCell ⟨w.heap.size + 1, 0, none⟩ (.int .i64 k)).cell? ⟨w.heap.size, j, none⟩ = some v :=
  ⟨set6_below (h.below.setCell (by simp) _) _ (Nat.le_refl _) _ _ _ _ _ _, fun j hj => by obtain ⟨v, hv⟩ := h.r j hj; exact ⟨v, (cell_set_other wr _ (by simp)).trans hv⟩⟩

set_option maxRecDepth 100000 in
set_option maxHeartbeats 3200000 in
theorem word_nl (A : Option Addr) (n cc : Nat) (l : List Int) (i : Nat) (w : World) (hr : Runes w (.slice A n cc) l) (hl : l.length ≤ 4096) (hi : i < l.length) (c : Int) (hc : l.getD i 0 = c) (hd : digB c = false) (hlt0 : letB c = false) (h10 : c = 10) :
    Calls Tryd.prog 103 #[.slice A n cc, .int .i64 (i : Int)] w fun e w' => TokTells (some ({ kind := 7, at_ := i, char := c }, i + 1)) i w.heap.size e w' ∧ Below w.heap.size w w' := by
  obtain ⟨A', cc', n', hv', hn, hcell⟩ := hr.opn
  obtain ⟨rfl, rfl, rfl⟩ : A = A' ∧ n = n' ∧ cc = cc' := by simpa using hv'
  have hn4 : n ≤ 4096 := by omega
  have hin : i < n := by omega
  have hsf := st_float
  obtain ⟨b, o, rfl, hce⟩ := hcell i hi
  rw [hc] at hce
  have hce0 := hce _ (Below.refl _ _)
  have hlt := cell_lt hce0
  have HWS0 := Lib.hid (WS.start w i c)
  have HDG : Hid (∀ w, Calls Tryd.prog 130 #[.int .i32 c] w fun e w' => e = .returned (.bool (digB c)) ∧ w = w') := digit_walk c
  have HLT : Hid (∀ w, Calls Tryd.prog 133 #[.int .i32 c] w fun e w' => e = .returned (.bool (letB c)) ∧ w = w') := letter_walk c
  rw [hd] at HDG
  rw [hlt0] at HLT
  subst h10
  clear hv' hn hcell hce hr hi hl hc hd hlt0
  go_enter Tryd.func103, Tryd.ntmps103
  go_wp2_with fail
  generalize (w.alloc (.cells #[.int .i64 0, .int .i64 0, .float .f64 0, .slice none 0 0, .string ⟨#[]⟩, .int .i32 0] 136)).alloc (.cells #[.int .i64 0, .int .i64 (i : Int), .float .f64 0, .slice none 0 0, .string ⟨#[]⟩, .int .i32 10] 136) = W at *
  refine (HDG.out _).mono ?_
  rintro e w' ⟨rfl, rfl⟩
  go_wp2_with fail
  refine (HLT.out _).mono ?_
  rintro e w0 ⟨rfl, rfl⟩
  have HWS := Lib.hid HWS0.out
  have t0 := HWS.out.t0; have t1 := HWS.out.t1; have t2 := HWS.out.t2; have t3 := HWS.out.t3; have t4 := HWS.out.t4; have t5 := HWS.out.t5; have hf0 := HWS.out.f0; have hf1 := HWS.out.f1
  obtain ⟨v0, r0⟩ := HWS.out.r 0 (by omega); obtain ⟨v1, r1⟩ := HWS.out.r 1 (by omega); obtain ⟨v2, r2⟩ := HWS.out.r 2 (by omega); obtain ⟨v3, r3⟩ := HWS.out.r 3 (by omega); obtain ⟨v4, r4⟩ := HWS.out.r 4 (by omega); obtain ⟨v5, r5⟩ := HWS.out.r 5 (by omega)
  go_wp2
  obtain ⟨HBZ, HR6⟩ := HWS.out.set 7 (.int .i64 7) (.int .i64 i) (.float .f64 0) (.slice none 0 0) (.string ⟨#[]⟩) (.int .i32 10)
  obtain ⟨q0, q1, q2, q3, q4, q5⟩ := set6_cells _ w.heap.size (.int .i64 7) (.int .i64 i) (.float .f64 0) (.slice none 0 0) (.string ⟨#[]⟩) (.int .i32 10) HR6
  unfold set6 at q0 q1 q2 q3 q4 q5 HBZ
  refine bodyPost_ret (v := .tuple #[tokV { kind := 7, at_ := i, char := 10 } (.slice none 0 0), .int .i64 ((i + 1 : Nat) : Int), .bool true]) (by simp [results, Tryd.results103, go_sem, tokV, q0, q1, q2, q3, q4, q5]) rfl ⟨.yes rfl (OwnR.nil _ _), HBZ⟩

set_option maxRecDepth 100000 in
set_option maxHeartbeats 3200000 in
theorem word_dia (A : Option Addr) (n cc : Nat) (l : List Int) (i : Nat) (w : World) (hr : Runes w (.slice A n cc) l) (hl : l.length ≤ 4096) (hi : i < l.length) (c : Int) (hc : l.getD i 0 = c) (hd : digB c = false) (hlt0 : letB c = false) (h10 : c = 8900) :
    Calls Tryd.prog 103 #[.slice A n cc, .int .i64 (i : Int)] w fun e w' => TokTells (some ({ kind := 7, at_ := i, char := c }, i + 1)) i w.heap.size e w' ∧ Below w.heap.size w w' := by
  obtain ⟨A', cc', n', hv', hn, hcell⟩ := hr.opn
  obtain ⟨rfl, rfl, rfl⟩ : A = A' ∧ n = n' ∧ cc = cc' := by simpa using hv'
  have hn4 : n ≤ 4096 := by omega
  have hin : i < n := by omega
  have hsf := st_float
  obtain ⟨b, o, rfl, hce⟩ := hcell i hi
  rw [hc] at hce
  have hce0 := hce _ (Below.refl _ _)
  have hlt := cell_lt hce0
  have HWS0 := Lib.hid (WS.start w i c)
  have HDG : Hid (∀ w, Calls Tryd.prog 130 #[.int .i32 c] w fun e w' => e = .returned (.bool (digB c)) ∧ w = w') := digit_walk c
  have HLT : Hid (∀ w, Calls Tryd.prog 133 #[.int .i32 c] w fun e w' => e = .returned (.bool (letB c)) ∧ w = w') := letter_walk c
  rw [hd] at HDG
  rw [hlt0] at HLT
  subst h10
  clear hv' hn hcell hce hr hi hl hc hd hlt0
  go_enter Tryd.func103, Tryd.ntmps103
  go_wp2_with fail
  generalize (w.alloc (.cells #[.int .i64 0, .int .i64 0, .float .f64 0, .slice none 0 0, .string ⟨#[]⟩, .int .i32 0] 136)).alloc (.cells #[.int .i64 0, .int .i64 (i : Int), .float .f64 0, .slice none 0 0, .string ⟨#[]⟩, .int .i32 8900] 136) = W at *
  refine (HDG.out _).mono ?_
  rintro e w' ⟨rfl, rfl⟩
  go_wp2_with fail
  refine (HLT.out _).mono ?_
  rintro e w0 ⟨rfl, rfl⟩
  have HWS := Lib.hid HWS0.out
  have t0 := HWS.out.t0; have t1 := HWS.out.t1; have t2 := HWS.out.t2; have t3 := HWS.out.t3; have t4 := HWS.out.t4; have t5 := HWS.out.t5; have hf0 := HWS.out.f0; have hf1 := HWS.out.f1
  obtain ⟨v0, r0⟩ := HWS.out.r 0 (by omega); obtain ⟨v1, r1⟩ := HWS.out.r 1 (by omega); obtain ⟨v2, r2⟩ := HWS.out.r 2 (by omega); obtain ⟨v3, r3⟩ := HWS.out.r 3 (by omega); obtain ⟨v4, r4⟩ := HWS.out.r 4 (by omega); obtain ⟨v5, r5⟩ := HWS.out.r 5 (by omega)
  go_wp2
  obtain ⟨HBZ, HR6⟩ := HWS.out.set 7 (.int .i64 7) (.int .i64 i) (.float .f64 0) (.slice none 0 0) (.string ⟨#[]⟩) (.int .i32 8900)
  obtain ⟨q0, q1, q2, q3, q4, q5⟩ := set6_cells _ w.heap.size (.int .i64 7) (.int .i64 i) (.float .f64 0) (.slice none 0 0) (.string ⟨#[]⟩) (.int .i32 8900) HR6
  unfold set6 at q0 q1 q2 q3 q4 q5 HBZ
  refine bodyPost_ret (v := .tuple #[tokV { kind := 7, at_ := i, char := 8900 } (.slice none 0 0), .int .i64 ((i + 1 : Nat) : Int), .bool true]) (by simp [results, Tryd.results103, go_sem, tokV, q0, q1, q2, q3, q4, q5]) rfl ⟨.yes rfl (OwnR.nil _ _), HBZ⟩

set_option maxRecDepth 100000 in
set_option maxHeartbeats 3200000 in
theorem word_verb (A : Option Addr) (n cc : Nat) (l : List Int) (i : Nat) (w : World) (hr : Runes w (.slice A n cc) l) (hl : l.length ≤ 4096) (hi : i < l.length) (c : Int) (hc : l.getD i 0 = c) (hd : digB c = false) (hlt0 : letB c = false) (h175 : (c == 175) = false) (h39 : (c == 39) = false) (h10 : (c == 10) = false) (h89 : (c == 8900) = false) (hinverbL : decide (c ∈ verbL) = true) :
    Calls Tryd.prog 103 #[.slice A n cc, .int .i64 (i : Int)] w fun e w' => TokTells (some ({ kind := 4, at_ := i, char := c }, i + 1)) i w.heap.size e w' ∧ Below w.heap.size w w' := by
  obtain ⟨A', cc', n', hv', hn, hcell⟩ := hr.opn
  obtain ⟨rfl, rfl, rfl⟩ : A = A' ∧ n = n' ∧ cc = cc' := by simpa using hv'
  have hn4 : n ≤ 4096 := by omega
  have hin : i < n := by omega
  have hsf := st_float
  obtain ⟨b, o, rfl, hce⟩ := hcell i hi
  rw [hc] at hce
  have hce0 := hce _ (Below.refl _ _)
  have hlt := cell_lt hce0
  have HWS0 := Lib.hid (WS.start w i c)
  have HDG : Hid (∀ w, Calls Tryd.prog 130 #[.int .i32 c] w fun e w' => e = .returned (.bool (digB c)) ∧ w = w') := digit_walk c
  have HLT : Hid (∀ w, Calls Tryd.prog 133 #[.int .i32 c] w fun e w' => e = .returned (.bool (letB c)) ∧ w = w') := letter_walk c
  rw [hd] at HDG
  rw [hlt0] at HLT
  have HverbL := Lib.hid hinverbL
  clear hinverbL
  clear hv' hn hcell hce hr hi hl hc hd hlt0
  go_enter Tryd.func103, Tryd.ntmps103
  go_wp2_with fail
  generalize (w.alloc (.cells #[.int .i64 0, .int .i64 0, .float .f64 0, .slice none 0 0, .string ⟨#[]⟩, .int .i32 0] 136)).alloc (.cells #[.int .i64 0, .int .i64 (i : Int), .float .f64 0, .slice none 0 0, .string ⟨#[]⟩, .int .i32 c] 136) = W at *
  refine (HDG.out _).mono ?_
  rintro e w' ⟨rfl, rfl⟩
  go_wp2_with fail
  refine (HLT.out _).mono ?_
  rintro e w0 ⟨rfl, rfl⟩
  go_wp2_with fail
  refine (in_at c verbL _ _ (by decide +kernel)).mono ?_
  rintro e w1 ⟨rfl, hb⟩
  have HWS1 := Lib.hid (HWS0.out.step hb)
  clear hb
  rw [HverbL.out]
  have HWS := Lib.hid HWS1.out
  have t0 := HWS.out.t0; have t1 := HWS.out.t1; have t2 := HWS.out.t2; have t3 := HWS.out.t3; have t4 := HWS.out.t4; have t5 := HWS.out.t5; have hf0 := HWS.out.f0; have hf1 := HWS.out.f1
  obtain ⟨v0, r0⟩ := HWS.out.r 0 (by omega); obtain ⟨v1, r1⟩ := HWS.out.r 1 (by omega); obtain ⟨v2, r2⟩ := HWS.out.r 2 (by omega); obtain ⟨v3, r3⟩ := HWS.out.r 3 (by omega); obtain ⟨v4, r4⟩ := HWS.out.r 4 (by omega); obtain ⟨v5, r5⟩ := HWS.out.r 5 (by omega)
  go_wp2
  obtain ⟨HBZ, HR6⟩ := HWS.out.set 4 (.int .i64 4) (.int .i64 i) (.float .f64 0) (.slice none 0 0) (.string ⟨#[]⟩) (.int .i32 c)
  obtain ⟨q0, q1, q2, q3, q4, q5⟩ := set6_cells _ w.heap.size (.int .i64 4) (.int .i64 i) (.float .f64 0) (.slice none 0 0) (.string ⟨#[]⟩) (.int .i32 c) HR6
  unfold set6 at q0 q1 q2 q3 q4 q5 HBZ
  refine bodyPost_ret (v := .tuple #[tokV { kind := 4, at_ := i, char := c } (.slice none 0 0), .int .i64 ((i + 1 : Nat) : Int), .bool true]) (by simp [results, Tryd.results103, go_sem, tokV, q0, q1, q2, q3, q4, q5]) rfl ⟨.yes rfl (OwnR.nil _ _), HBZ⟩

set_option maxRecDepth 100000 in
set_option maxHeartbeats 3200000 in
theorem word_glyph (A : Option Addr) (n cc : Nat) (l : List Int) (i : Nat) (w : World) (hr : Runes w (.slice A n cc) l) (hl : l.length ≤ 4096) (hi : i < l.length) (c : Int) (hc : l.getD i 0 = c) (hd : digB c = false) (hlt0 : letB c = false) (h175 : (c == 175) = false) (h39 : (c == 39) = false) (h10 : (c == 10) = false) (h89 : (c == 8900) = false) (hinverbL : decide (c ∈ verbL) = false) (hinglyphL : decide (c ∈ glyphL) = true) :
    Calls Tryd.prog 103 #[.slice A n cc, .int .i64 (i : Int)] w fun e w' => TokTells (some ({ kind := 5, at_ := i, char := c }, i + 1)) i w.heap.size e w' ∧ Below w.heap.size w w' := by
  obtain ⟨A', cc', n', hv', hn, hcell⟩ := hr.opn
  obtain ⟨rfl, rfl, rfl⟩ : A = A' ∧ n = n' ∧ cc = cc' := by simpa using hv'
  have hn4 : n ≤ 4096 := by omega
  have hin : i < n := by omega
  have hsf := st_float
  obtain ⟨b, o, rfl, hce⟩ := hcell i hi
  rw [hc] at hce
  have hce0 := hce _ (Below.refl _ _)
  have hlt := cell_lt hce0
  have HWS0 := Lib.hid (WS.start w i c)
  have HDG : Hid (∀ w, Calls Tryd.prog 130 #[.int .i32 c] w fun e w' => e = .returned (.bool (digB c)) ∧ w = w') := digit_walk c
  have HLT : Hid (∀ w, Calls Tryd.prog 133 #[.int .i32 c] w fun e w' => e = .returned (.bool (letB c)) ∧ w = w') := letter_walk c
  rw [hd] at HDG
  rw [hlt0] at HLT
  have HverbL := Lib.hid hinverbL
  clear hinverbL
  have HglyphL := Lib.hid hinglyphL
  clear hinglyphL
  clear hv' hn hcell hce hr hi hl hc hd hlt0
  go_enter Tryd.func103, Tryd.ntmps103
  go_wp2_with fail
  generalize (w.alloc (.cells #[.int .i64 0, .int .i64 0, .float .f64 0, .slice none 0 0, .string ⟨#[]⟩, .int .i32 0] 136)).alloc (.cells #[.int .i64 0, .int .i64 (i : Int), .float .f64 0, .slice none 0 0, .string ⟨#[]⟩, .int .i32 c] 136) = W at *
  refine (HDG.out _).mono ?_
  rintro e w' ⟨rfl, rfl⟩
  go_wp2_with fail
  refine (HLT.out _).mono ?_
  rintro e w0 ⟨rfl, rfl⟩
  go_wp2_with fail
  refine (in_at c verbL _ _ (by decide +kernel)).mono ?_
  rintro e w1 ⟨rfl, hb⟩
  have HWS1 := Lib.hid (HWS0.out.step hb)
  clear hb
  rw [HverbL.out]
  go_wp2_with fail
  refine (in_at c glyphL _ _ (by decide +kernel)).mono ?_
  rintro e w2 ⟨rfl, hb⟩
  have HWS2 := Lib.hid (HWS1.out.step hb)
  clear hb
  rw [HglyphL.out]
  have HWS := Lib.hid HWS2.out
  have t0 := HWS.out.t0; have t1 := HWS.out.t1; have t2 := HWS.out.t2; have t3 := HWS.out.t3; have t4 := HWS.out.t4; have t5 := HWS.out.t5; have hf0 := HWS.out.f0; have hf1 := HWS.out.f1
  obtain ⟨v0, r0⟩ := HWS.out.r 0 (by omega); obtain ⟨v1, r1⟩ := HWS.out.r 1 (by omega); obtain ⟨v2, r2⟩ := HWS.out.r 2 (by omega); obtain ⟨v3, r3⟩ := HWS.out.r 3 (by omega); obtain ⟨v4, r4⟩ := HWS.out.r 4 (by omega); obtain ⟨v5, r5⟩ := HWS.out.r 5 (by omega)
  go_wp2
  obtain ⟨HBZ, HR6⟩ := HWS.out.set 5 (.int .i64 5) (.int .i64 i) (.float .f64 0) (.slice none 0 0) (.string ⟨#[]⟩) (.int .i32 c)
  obtain ⟨q0, q1, q2, q3, q4, q5⟩ := set6_cells _ w.heap.size (.int .i64 5) (.int .i64 i) (.float .f64 0) (.slice none 0 0) (.string ⟨#[]⟩) (.int .i32 c) HR6
  unfold set6 at q0 q1 q2 q3 q4 q5 HBZ
  refine bodyPost_ret (v := .tuple #[tokV { kind := 5, at_ := i, char := c } (.slice none 0 0), .int .i64 ((i + 1 : Nat) : Int), .bool true]) (by simp [results, Tryd.results103, go_sem, tokV, q0, q1, q2, q3, q4, q5]) rfl ⟨.yes rfl (OwnR.nil _ _), HBZ⟩

set_option maxRecDepth 100000 in
set_option maxHeartbeats 3200000 in
theorem word_mark (A : Option Addr) (n cc : Nat) (l : List Int) (i : Nat) (w : World) (hr : Runes w (.slice A n cc) l) (hl : l.length ≤ 4096) (hi : i < l.length) (c : Int) (hc : l.getD i 0 = c) (hd : digB c = false) (hlt0 : letB c = false) (h175 : (c == 175) = false) (h39 : (c == 39) = false) (h10 : (c == 10) = false) (h89 : (c == 8900) = false) (hinverbL : decide (c ∈ verbL) = false) (hinglyphL : decide (c ∈ glyphL) = false) (hinmarkL : decide (c ∈ markL) = true) :
    Calls Tryd.prog 103 #[.slice A n cc, .int .i64 (i : Int)] w fun e w' => TokTells (some ({ kind := 6, at_ := i, char := c }, i + 1)) i w.heap.size e w' ∧ Below w.heap.size w w' := by
  obtain ⟨A', cc', n', hv', hn, hcell⟩ := hr.opn
  obtain ⟨rfl, rfl, rfl⟩ : A = A' ∧ n = n' ∧ cc = cc' := by simpa using hv'
  have hn4 : n ≤ 4096 := by omega
  have hin : i < n := by omega
  have hsf := st_float
  obtain ⟨b, o, rfl, hce⟩ := hcell i hi
  rw [hc] at hce
  have hce0 := hce _ (Below.refl _ _)
  have hlt := cell_lt hce0
  have HWS0 := Lib.hid (WS.start w i c)
  have HDG : Hid (∀ w, Calls Tryd.prog 130 #[.int .i32 c] w fun e w' => e = .returned (.bool (digB c)) ∧ w = w') := digit_walk c
  have HLT : Hid (∀ w, Calls Tryd.prog 133 #[.int .i32 c] w fun e w' => e = .returned (.bool (letB c)) ∧ w = w') := letter_walk c
  rw [hd] at HDG
  rw [hlt0] at HLT
  have HverbL := Lib.hid hinverbL
  clear hinverbL
  have HglyphL := Lib.hid hinglyphL
  clear hinglyphL
  have HmarkL := Lib.hid hinmarkL
  clear hinmarkL
  clear hv' hn hcell hce hr hi hl hc hd hlt0
  go_enter Tryd.func103, Tryd.ntmps103
  go_wp2_with fail
  generalize (w.alloc (.cells #[.int .i64 0, .int .i64 0, .float .f64 0, .slice none 0 0, .string ⟨#[]⟩, .int .i32 0] 136)).alloc (.cells #[.int .i64 0, .int .i64 (i : Int), .float .f64 0, .slice none 0 0, .string ⟨#[]⟩, .int .i32 c] 136) = W at *
  refine (HDG.out _).mono ?_
  rintro e w' ⟨rfl, rfl⟩
  go_wp2_with fail
  refine (HLT.out _).mono ?_
  rintro e w0 ⟨rfl, rfl⟩
  go_wp2_with fail
  refine (in_at c verbL _ _ (by decide +kernel)).mono ?_
  rintro e w1 ⟨rfl, hb⟩
  have HWS1 := Lib.hid (HWS0.out.step hb)
  clear hb
  rw [HverbL.out]
  go_wp2_with fail
  refine (in_at c glyphL _ _ (by decide +kernel)).mono ?_
  rintro e w2 ⟨rfl, hb⟩
  have HWS2 := Lib.hid (HWS1.out.step hb)
  clear hb
  rw [HglyphL.out]
  go_wp2_with fail
  refine (in_at c markL _ _ (by decide +kernel)).mono ?_
  rintro e w3 ⟨rfl, hb⟩
  have HWS3 := Lib.hid (HWS2.out.step hb)
  clear hb
  rw [HmarkL.out]
  have HWS := Lib.hid HWS3.out
  have t0 := HWS.out.t0; have t1 := HWS.out.t1; have t2 := HWS.out.t2; have t3 := HWS.out.t3; have t4 := HWS.out.t4; have t5 := HWS.out.t5; have hf0 := HWS.out.f0; have hf1 := HWS.out.f1
  obtain ⟨v0, r0⟩ := HWS.out.r 0 (by omega); obtain ⟨v1, r1⟩ := HWS.out.r 1 (by omega); obtain ⟨v2, r2⟩ := HWS.out.r 2 (by omega); obtain ⟨v3, r3⟩ := HWS.out.r 3 (by omega); obtain ⟨v4, r4⟩ := HWS.out.r 4 (by omega); obtain ⟨v5, r5⟩ := HWS.out.r 5 (by omega)
  go_wp2
  obtain ⟨HBZ, HR6⟩ := HWS.out.set 6 (.int .i64 6) (.int .i64 i) (.float .f64 0) (.slice none 0 0) (.string ⟨#[]⟩) (.int .i32 c)
  obtain ⟨q0, q1, q2, q3, q4, q5⟩ := set6_cells _ w.heap.size (.int .i64 6) (.int .i64 i) (.float .f64 0) (.slice none 0 0) (.string ⟨#[]⟩) (.int .i32 c) HR6
  unfold set6 at q0 q1 q2 q3 q4 q5 HBZ
  refine bodyPost_ret (v := .tuple #[tokV { kind := 6, at_ := i, char := c } (.slice none 0 0), .int .i64 ((i + 1 : Nat) : Int), .bool true]) (by simp [results, Tryd.results103, go_sem, tokV, q0, q1, q2, q3, q4, q5]) rfl ⟨.yes rfl (OwnR.nil _ _), HBZ⟩

set_option maxRecDepth 100000 in
set_option maxHeartbeats 3200000 in
theorem word_bad (A : Option Addr) (n cc : Nat) (l : List Int) (i : Nat) (w : World) (hr : Runes w (.slice A n cc) l) (hl : l.length ≤ 4096) (hi : i < l.length) (c : Int) (hc : l.getD i 0 = c) (hd : digB c = false) (hlt0 : letB c = false) (h175 : (c == 175) = false) (h39 : (c == 39) = false) (h10 : (c == 10) = false) (h89 : (c == 8900) = false) (hinverbL : decide (c ∈ verbL) = false) (hinglyphL : decide (c ∈ glyphL) = false) (hinmarkL : decide (c ∈ markL) = false) :
    Calls Tryd.prog 103 #[.slice A n cc, .int .i64 (i : Int)] w fun e w' => TokTells none i w.heap.size e w' ∧ Below w.heap.size w w' := by
  obtain ⟨A', cc', n', hv', hn, hcell⟩ := hr.opn
  obtain ⟨rfl, rfl, rfl⟩ : A = A' ∧ n = n' ∧ cc = cc' := by simpa using hv'
  have hn4 : n ≤ 4096 := by omega
  have hin : i < n := by omega
  have hsf := st_float
  obtain ⟨b, o, rfl, hce⟩ := hcell i hi
  rw [hc] at hce
  have hce0 := hce _ (Below.refl _ _)
  have hlt := cell_lt hce0
  have HWS0 := Lib.hid (WS.start w i c)
  have HDG : Hid (∀ w, Calls Tryd.prog 130 #[.int .i32 c] w fun e w' => e = .returned (.bool (digB c)) ∧ w = w') := digit_walk c
  have HLT : Hid (∀ w, Calls Tryd.prog 133 #[.int .i32 c] w fun e w' => e = .returned (.bool (letB c)) ∧ w = w') := letter_walk c
  rw [hd] at HDG
  rw [hlt0] at HLT
  have HverbL := Lib.hid hinverbL
  clear hinverbL
  have HglyphL := Lib.hid hinglyphL
  clear hinglyphL
  have HmarkL := Lib.hid hinmarkL
  clear hinmarkL
  clear hv' hn hcell hce hr hi hl hc hd hlt0
  go_enter Tryd.func103, Tryd.ntmps103
  go_wp2_with fail
  generalize (w.alloc (.cells #[.int .i64 0, .int .i64 0, .float .f64 0, .slice none 0 0, .string ⟨#[]⟩, .int .i32 0] 136)).alloc (.cells #[.int .i64 0, .int .i64 (i : Int), .float .f64 0, .slice none 0 0, .string ⟨#[]⟩, .int .i32 c] 136) = W at *
  refine (HDG.out _).mono ?_
  rintro e w' ⟨rfl, rfl⟩
  go_wp2_with fail
  refine (HLT.out _).mono ?_
  rintro e w0 ⟨rfl, rfl⟩
  go_wp2_with fail
  refine (in_at c verbL _ _ (by decide +kernel)).mono ?_
  rintro e w1 ⟨rfl, hb⟩
  have HWS1 := Lib.hid (HWS0.out.step hb)
  clear hb
  rw [HverbL.out]
  go_wp2_with fail
  refine (in_at c glyphL _ _ (by decide +kernel)).mono ?_
  rintro e w2 ⟨rfl, hb⟩
  have HWS2 := Lib.hid (HWS1.out.step hb)
  clear hb
  rw [HglyphL.out]
  go_wp2_with fail
  refine (in_at c markL _ _ (by decide +kernel)).mono ?_
  rintro e w3 ⟨rfl, hb⟩
  have HWS3 := Lib.hid (HWS2.out.step hb)
  clear hb
  rw [HmarkL.out]
  have HWS := Lib.hid HWS3.out
  have t0 := HWS.out.t0; have t1 := HWS.out.t1; have t2 := HWS.out.t2; have t3 := HWS.out.t3; have t4 := HWS.out.t4; have t5 := HWS.out.t5; have hf0 := HWS.out.f0; have hf1 := HWS.out.f1
  obtain ⟨v0, r0⟩ := HWS.out.r 0 (by omega); obtain ⟨v1, r1⟩ := HWS.out.r 1 (by omega); obtain ⟨v2, r2⟩ := HWS.out.r 2 (by omega); obtain ⟨v3, r3⟩ := HWS.out.r 3 (by omega); obtain ⟨v4, r4⟩ := HWS.out.r 4 (by omega); obtain ⟨v5, r5⟩ := HWS.out.r 5 (by omega)
  go_wp2
  obtain ⟨q0, q1, q2, q3, q4, q5⟩ := set6_cells w3 w.heap.size (.int .i64 0) (.int .i64 0) (.float .f64 0) (.slice none 0 0) (.string ⟨#[]⟩) (.int .i32 0) HWS.out.r
  have HBZ := set6_below HWS.out.below _ (Nat.le_refl _) (.int .i64 0) (.int .i64 0) (.float .f64 0) (.slice none 0 0) (.string ⟨#[]⟩) (.int .i32 0)
  unfold set6 at q0 q1 q2 q3 q4 q5 HBZ
  refine bodyPost_ret (v := .tuple #[tok0V, .int .i64 (i : Int), .bool false]) (by simp [results, Tryd.results103, go_sem, tok0V, q0, q1, q2, q3, q4, q5]) rfl ⟨.no rfl, HBZ⟩

end Go.Proofs.YtnhnaallalgefaaDoor
