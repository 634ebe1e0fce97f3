/- The walk of tree.Print; the example of layer 31, awake. Conditions: as each theorem says. -/
import Derived.Test.YtmfklpacpjoggaaDoorTrDp
import Derived.Test.YtmfklpacpjoggaaDoorStr
namespace Go.Proofs.YtmfklpacpjoggaaDoor
open Go Go.RowKit Go.Proofs Fl

set_option maxRecDepth 100000 in
set_option maxHeartbeats 800000 in
theorem print_walk (t : RTree) (s : List Int) (v0 v1 v2 v3 v4 v5 v6 : Value) (w : World) (hg : ((gd t 0 || gd t 1) && dpB 40 t) = true) (hf : FitG t) (ht : TN w t [v0, v1, v2, v3, v4, v5, v6]) (hN : NodeP 17 w t s) (hl : 2 * s.length ≤ 1099511627000) :
    Calls Tryd.prog 11 #[.agg #[v0, v1, v2, v3, v4, v5, v6]] w fun e w' => (∃ v, e = .returned v ∧ Runes w' v s) ∧ Below w.heap.size w w' := by
  have HG : Hid (∀ W, Below w.heap.size w W → Calls Tryd.prog 12 #[.agg #[v0, v1, v2, v3, v4, v5, v6]] W fun e w' => e = .returned (.bool true) ∧ Below W.heap.size W w') := fun W hb => by
    have := good31_walk t v0 v1 v2 v3 v4 v5 v6 W hf (TN.below hb _ _ ht); rw [hg] at this; exact this
  have HN : Hid (∀ W g v l, Below w.heap.size w W → WSt W w.heap.size g v l → l.length + 2 * s.length ≤ 1099511627000 → Calls Tryd.prog 17 #[.pointer (some ⟨g, 0, none⟩), .agg #[v0, v1, v2, v3, v4, v5, v6]] W fun e w' => e = .returned (.tuple #[]) ∧ Stepped w W g v (joinP l s) w') := fun W g v l hb hw h => hN _ _ _ _ _ _ _ W g v l ht hb hw h
  obtain ⟨k, a, c, name, A1, A2, A, n1, c1, n2, c2, m, cc, rfl, rfl, rfl, rfl, rfl, rfl, rfl⟩ := ht.shape
  have X0 := Lib.hid (boxed w [.int .i64 k, .int .i64 a, .slice A1 n1 c1, .slice A2 n2 c2, .string name, .int .i32 c, .slice A m cc] 31)
  have HL := Lib.hid hl
  clear hg hf ht hN hl
  go_enter Tryd.func11, Tryd.ntmps11
  go_wp2_with fail
  generalize w.alloc (.cells #[.int .i64 k, .int .i64 a, .slice A1 n1 c1, .slice A2 n2 c2, .string name, .int .i32 c, .slice A m cc] 31) = W at *
  (with_reducible refine (HG.out _ X0.out.bl).mono ?_)
  rintro e w1 ⟨rfl, hb⟩
  have X1 := Lib.hid (X0.out.step hb)
  have hba := (Below.refl _ w1).alloc (Nat.le_refl _) (.cells #[.slice none 0 0] 46)
  have X2 := Lib.hid (X1.out.step hba)
  have hw2 : WSt (w1.alloc (.cells #[.slice none 0 0] 46)) w.heap.size w1.heap.size (.slice none 0 0) [] :=
    ⟨X1.out.bl.size, heap_alloc_new w1 _, OwnR.nil _ _, by simp [Value.ownBlock]⟩
  have HNW := Lib.hid (HN.out _ _ _ _ X2.out.bl hw2 (by simpa using HL.out))
  obtain ⟨x0, x1, x2, x3, x4, x5, x6⟩ := X1.out.c7
  obtain ⟨y0, y1, y2, y3, y4, y5, y6⟩ := X2.out.c7
  clear hb hba hw2
  go_wp2_with fail
  (with_reducible refine HNW.out.mono ?_)
  rintro e w3 ⟨rfl, v', hw3, hg3, hb3⟩
  rw [joinP_nil] at hw3
  have HR := Lib.hid hw3.own.runes
  have HB3 := Lib.hid hb3
  obtain ⟨hc3, hf3⟩ := hw3.cell
  obtain ⟨A', cv', hv'⟩ := hw3.own.len
  subst hv'
  clear hw3 hg3 hb3 x0 x1 x2 x3 x4 x5 x6 y0 y1 y2 y3 y4 y5 y6
  have HR' := Lib.hid HR.out
  generalize s.length = sl at *
  go_wp2
  go_ret
  exact ⟨⟨_, rfl, HR.out⟩, HB3.out⟩

/-- the empty text -/
abbrev e0 : ByteArray := ⟨#[]⟩
def exP : RTree := .mk 13 [] [] e0 43 []
def exO : RTree := .mk 16 [] [] e0 47 [exP]
def exW : RTree := .mk 5 [] [] e0 0 []
def exC : RTree := .mk 9 [] [] e0 0 [exO, exW]

theorem reads_nil (w : World) (f : List Value) (h : f = []) : Reads1 w (.slice none 0 0) f := .inl ⟨none, 0, rfl, h⟩
theorem tn_leaf (w : World) (k c : Int) : TN w (.mk k [] [] e0 c []) [.int .i64 k, .int .i64 0, .slice none 0 0, .slice none 0 0, .string e0, .int .i32 c, .slice none 0 0] := by
  rw [TN]
  exact ⟨0, _, _, _, rfl, reads_nil w _ rfl, reads_nil w _ rfl, .inl ⟨rfl, none, 0, rfl⟩⟩
theorem tn_kids (w : World) (k c : Int) (kids : List RTree) (b o cc : Nat) (hne : kids ≠ []) (hc : kids.length ≤ cc) (h : TKs w b o kids) (m : Nat) (hm : m = kids.length) : TN w (.mk k [] [] e0 c kids) [.int .i64 k, .int .i64 0, .slice none 0 0, .slice none 0 0, .string e0, .int .i32 c, .slice (some ⟨b, o, none⟩) m cc] := by
  rw [TN]
  exact ⟨0, _, _, _, rfl, reads_nil w _ rfl, reads_nil w _ rfl, .inr ⟨hne, b, o, cc, by rw [hm], hc, h⟩⟩

theorem ex_fit : FitG exC := by
  simp [FitG, FitGs, exC, exO, exW, exP]; decide
theorem ex_good : ((gd exC 0 || gd exC 1) && dpB 40 exC) = true := by
  have h1 : gd exP 1 = true := by unfold exP; rw [gd_1_13]; decide +kernel
  have h2 : gd exO 1 = true := by
    have : gds [exP] 1 = true := by rw [gds_eq]; simp [h1]
    unfold exO; rw [gd_1_16, this]; decide +kernel
  have h3 : gd exW 0 = true := by unfold exW; rw [gd_0_5]; decide +kernel
  have h4 : gdh [exO, exW] 1 0 = true := by rw [gdh, gds_eq, h2]; simp [h3]
  have h5 : gd exC 0 = true := by unfold exC; rw [gd_0_9, h4]; decide +kernel
  have h6 : dpB 40 exC = true := by simp [exC, exO, exW, exP, dpB]
  rw [h5, h6]; rfl
theorem ex_node (w0 : World) : NodeP 17 w0 exC [43, 47, 9077] := by
  have h := node_more w0 9 (.inl rfl) [] [] e0 0 [exO, exW] _ (more_9 w0 [] [] e0 0 exO exW (joinP [43] [47]) [9077]
    (node_more w0 16 (.inr rfl) [] [] e0 47 [exP] _ (more_16 w0 [] [] e0 47 exP [43] (node_13 w0 [] [] e0 43 []))) (node_5 w0 [] [] e0 0 [])
    (slashed_16 w0 16 (.inl rfl) [] [] e0 47 exP [] false (by have := slashed_13 w0 [] [] e0 43 []; exact this)) (by decide) (by decide))
  exact h

theorem conv_runes3 {w : World} {v : Value} {l : List Int} (h : Runes w v l) :
    (convert 23 9 v).run Tryd.prog w = .ok (.string (runesBytes l)) w := by
  rcases h with ⟨a, c, rfl, rfl⟩ | ⟨b, o, n, c, rfl, hn, hc⟩
  · rw [run_convert_runes_string (P := Tryd.prog) w 23 9 21 _ _ _ Tryd.underlying23 Tryd.underlying21 Tryd.underlying9]
    cases a with
    | none => rfl
    | some a => exact run_runesToString w a 0 c [] (by simp [go_sem, loadCells, loadCellsFrom])
  · have := run_convert_runes (P := Tryd.prog) w 23 9 21 ⟨b, o, none⟩ n c l (by omega) Tryd.underlying23 Tryd.underlying21 Tryd.underlying9 (by
      intro j hj
      have e : (⟨b, o, none⟩ : Addr).add j = ⟨b, o + j, none⟩ := by
        unfold Addr.add; split
        · rename_i h0; subst h0; rfl
        · rfl
      rw [e, hc j hj]
      simp [List.getD, hj])
    rw [this, List.take_of_length_le (by omega)]

theorem ex_tn (w : World) : TN (((w.alloc (.cells #[.int .i64 13, .int .i64 0, .slice none 0 0, .slice none 0 0, .string e0, .int .i32 43, .slice none 0 0] 31)).alloc (.cells #[.int .i64 16, .int .i64 0, .slice none 0 0, .slice none 0 0, .string e0, .int .i32 47, .slice (some ⟨w.heap.size, 0, none⟩) 1 1, .int .i64 5, .int .i64 0, .slice none 0 0, .slice none 0 0, .string e0, .int .i32 0, .slice none 0 0] 31)).alloc (.cells #[.int .i64 9, .int .i64 0, .slice none 0 0, .slice none 0 0, .string e0, .int .i32 0, .slice (some ⟨w.heap.size + 1, 0, none⟩) 2 2] 31)) exC [.int .i64 9, .int .i64 0, .slice none 0 0, .slice none 0 0, .string e0, .int .i32 0, .slice (some ⟨w.heap.size + 1, 0, none⟩) 2 2] := by
  have hP : TKs (w.alloc (.cells #[.int .i64 13, .int .i64 0, .slice none 0 0, .slice none 0 0, .string e0, .int .i32 43, .slice none 0 0] 31)) w.heap.size 0 [exP] := by
    rw [TKs, TKs]
    refine ⟨⟨.int .i64 13, .int .i64 0, .slice none 0 0, .slice none 0 0, .string e0, .int .i32 43, .slice none 0 0, ?_, ?_, ?_, ?_, ?_, ?_, ?_, tn_leaf _ 13 43⟩, trivial⟩
    all_goals exact World.cell?_alloc_at _ _ _ _ rfl
  have hb1 : Below (w.alloc (.cells #[.int .i64 13, .int .i64 0, .slice none 0 0, .slice none 0 0, .string e0, .int .i32 43, .slice none 0 0] 31)).heap.size (w.alloc (.cells #[.int .i64 13, .int .i64 0, .slice none 0 0, .slice none 0 0, .string e0, .int .i32 43, .slice none 0 0] 31)) ((w.alloc (.cells #[.int .i64 13, .int .i64 0, .slice none 0 0, .slice none 0 0, .string e0, .int .i32 43, .slice none 0 0] 31)).alloc (.cells #[.int .i64 16, .int .i64 0, .slice none 0 0, .slice none 0 0, .string e0, .int .i32 47, .slice (some ⟨w.heap.size, 0, none⟩) 1 1, .int .i64 5, .int .i64 0, .slice none 0 0, .slice none 0 0, .string e0, .int .i32 0, .slice none 0 0] 31)) := (Below.refl _ _).alloc (Nat.le_refl _) _
  have hO : TKs ((w.alloc (.cells #[.int .i64 13, .int .i64 0, .slice none 0 0, .slice none 0 0, .string e0, .int .i32 43, .slice none 0 0] 31)).alloc (.cells #[.int .i64 16, .int .i64 0, .slice none 0 0, .slice none 0 0, .string e0, .int .i32 47, .slice (some ⟨w.heap.size, 0, none⟩) 1 1, .int .i64 5, .int .i64 0, .slice none 0 0, .slice none 0 0, .string e0, .int .i32 0, .slice none 0 0] 31)) (w.heap.size + 1) 0 [exO, exW] := by
    rw [TKs, TKs, TKs]
    refine ⟨⟨.int .i64 16, .int .i64 0, .slice none 0 0, .slice none 0 0, .string e0, .int .i32 47, .slice (some ⟨w.heap.size, 0, none⟩) 1 1, ?_, ?_, ?_, ?_, ?_, ?_, ?_, tn_kids _ 16 47 [exP] _ _ _ (by simp) (by simp) (TKs.below hb1 _ _ _ hP) 1 rfl⟩,
      ⟨.int .i64 5, .int .i64 0, .slice none 0 0, .slice none 0 0, .string e0, .int .i32 0, .slice none 0 0, ?_, ?_, ?_, ?_, ?_, ?_, ?_, tn_leaf _ 5 0⟩, trivial⟩
    all_goals exact World.cell?_alloc_at _ _ _ _ (by simp)
  exact tn_kids _ 9 0 [exO, exW] _ _ _ (by simp) (by simp) (TKs.below ((Below.refl _ _).alloc (Nat.le_refl _) _) _ _ _ hO) 2 rfl

set_option maxRecDepth 100000 in
set_option maxHeartbeats 800000 in
theorem awake31_walk (w : World) : Calls Tryd.prog 5 #[] w fun e w' => e = .returned (.bool true) ∧ Below w.heap.size w w' := by
  have ht := ex_tn w
  have hb0 : Below w.heap.size w (((w.alloc (.cells #[.int .i64 13, .int .i64 0, .slice none 0 0, .slice none 0 0, .string e0, .int .i32 43, .slice none 0 0] 31)).alloc (.cells #[.int .i64 16, .int .i64 0, .slice none 0 0, .slice none 0 0, .string e0, .int .i32 47, .slice (some ⟨w.heap.size, 0, none⟩) 1 1, .int .i64 5, .int .i64 0, .slice none 0 0, .slice none 0 0, .string e0, .int .i32 0, .slice none 0 0] 31)).alloc (.cells #[.int .i64 9, .int .i64 0, .slice none 0 0, .slice none 0 0, .string e0, .int .i32 0, .slice (some ⟨w.heap.size + 1, 0, none⟩) 2 2] 31)) := (((Below.refl _ w).alloc (Nat.le_refl _) _).alloc (by simp) _).alloc (by simp; omega) _
  have HPR := Lib.hid (print_walk exC [43, 47, 9077] _ _ _ _ _ _ _ _ ex_good ex_fit ht (ex_node _) (by decide))
  have HGD : Hid (∀ W, Below (((w.alloc (.cells #[.int .i64 13, .int .i64 0, .slice none 0 0, .slice none 0 0, .string e0, .int .i32 43, .slice none 0 0] 31)).alloc (.cells #[.int .i64 16, .int .i64 0, .slice none 0 0, .slice none 0 0, .string e0, .int .i32 47, .slice (some ⟨w.heap.size, 0, none⟩) 1 1, .int .i64 5, .int .i64 0, .slice none 0 0, .slice none 0 0, .string e0, .int .i32 0, .slice none 0 0] 31)).alloc (.cells #[.int .i64 9, .int .i64 0, .slice none 0 0, .slice none 0 0, .string e0, .int .i32 0, .slice (some ⟨w.heap.size + 1, 0, none⟩) 2 2] 31)).heap.size (((w.alloc (.cells #[.int .i64 13, .int .i64 0, .slice none 0 0, .slice none 0 0, .string e0, .int .i32 43, .slice none 0 0] 31)).alloc (.cells #[.int .i64 16, .int .i64 0, .slice none 0 0, .slice none 0 0, .string e0, .int .i32 47, .slice (some ⟨w.heap.size, 0, none⟩) 1 1, .int .i64 5, .int .i64 0, .slice none 0 0, .slice none 0 0, .string e0, .int .i32 0, .slice none 0 0] 31)).alloc (.cells #[.int .i64 9, .int .i64 0, .slice none 0 0, .slice none 0 0, .string e0, .int .i32 0, .slice (some ⟨w.heap.size + 1, 0, none⟩) 2 2] 31)) W → Calls Tryd.prog 12 #[.agg #[.int .i64 9, .int .i64 0, .slice none 0 0, .slice none 0 0, .string e0, .int .i32 0, .slice (some ⟨w.heap.size + 1, 0, none⟩) 2 2]] W fun e w' => e = .returned (.bool true) ∧ Below W.heap.size W w') := fun W hb => by
    have := good31_walk exC _ _ _ _ _ _ _ W ex_fit (TN.below hb _ _ ht); rw [ex_good] at this; exact this
  have HCT : Hid (∀ W, Below (((w.alloc (.cells #[.int .i64 13, .int .i64 0, .slice none 0 0, .slice none 0 0, .string e0, .int .i32 43, .slice none 0 0] 31)).alloc (.cells #[.int .i64 16, .int .i64 0, .slice none 0 0, .slice none 0 0, .string e0, .int .i32 47, .slice (some ⟨w.heap.size, 0, none⟩) 1 1, .int .i64 5, .int .i64 0, .slice none 0 0, .slice none 0 0, .string e0, .int .i32 0, .slice none 0 0] 31)).alloc (.cells #[.int .i64 9, .int .i64 0, .slice none 0 0, .slice none 0 0, .string e0, .int .i32 0, .slice (some ⟨w.heap.size + 1, 0, none⟩) 2 2] 31)).heap.size (((w.alloc (.cells #[.int .i64 13, .int .i64 0, .slice none 0 0, .slice none 0 0, .string e0, .int .i32 43, .slice none 0 0] 31)).alloc (.cells #[.int .i64 16, .int .i64 0, .slice none 0 0, .slice none 0 0, .string e0, .int .i32 47, .slice (some ⟨w.heap.size, 0, none⟩) 1 1, .int .i64 5, .int .i64 0, .slice none 0 0, .slice none 0 0, .string e0, .int .i32 0, .slice none 0 0] 31)).alloc (.cells #[.int .i64 9, .int .i64 0, .slice none 0 0, .slice none 0 0, .string e0, .int .i32 0, .slice (some ⟨w.heap.size + 1, 0, none⟩) 2 2] 31)) W → Calls Tryd.prog 13 #[.agg #[.int .i64 9, .int .i64 0, .slice none 0 0, .slice none 0 0, .string e0, .int .i32 0, .slice (some ⟨w.heap.size + 1, 0, none⟩) 2 2]] W fun e w' => e = .returned (.int .i64 4) ∧ Below W.heap.size W w') := fun W hb => by
    have hsz : sizeR exC = 4 := by simp [exC, exO, exW, exP, sizeR, sizeRs]
    have := tCount_walk 4 exC _ _ _ _ _ _ _ W (by omega) (by omega) (TN.below hb _ _ ht)
    rw [hsz] at this; exact this
  have HCL : Hid (∀ W, Below (((w.alloc (.cells #[.int .i64 13, .int .i64 0, .slice none 0 0, .slice none 0 0, .string e0, .int .i32 43, .slice none 0 0] 31)).alloc (.cells #[.int .i64 16, .int .i64 0, .slice none 0 0, .slice none 0 0, .string e0, .int .i32 47, .slice (some ⟨w.heap.size, 0, none⟩) 1 1, .int .i64 5, .int .i64 0, .slice none 0 0, .slice none 0 0, .string e0, .int .i32 0, .slice none 0 0] 31)).alloc (.cells #[.int .i64 9, .int .i64 0, .slice none 0 0, .slice none 0 0, .string e0, .int .i32 0, .slice (some ⟨w.heap.size + 1, 0, none⟩) 2 2] 31)).heap.size (((w.alloc (.cells #[.int .i64 13, .int .i64 0, .slice none 0 0, .slice none 0 0, .string e0, .int .i32 43, .slice none 0 0] 31)).alloc (.cells #[.int .i64 16, .int .i64 0, .slice none 0 0, .slice none 0 0, .string e0, .int .i32 47, .slice (some ⟨w.heap.size, 0, none⟩) 1 1, .int .i64 5, .int .i64 0, .slice none 0 0, .slice none 0 0, .string e0, .int .i32 0, .slice none 0 0] 31)).alloc (.cells #[.int .i64 9, .int .i64 0, .slice none 0 0, .slice none 0 0, .string e0, .int .i32 0, .slice (some ⟨w.heap.size + 1, 0, none⟩) 2 2] 31)) W → W.cell? ⟨w.heap.size + 2, 0, none⟩ = some (.int .i64 9) ∧ W.cell? ⟨w.heap.size + 2, 1, none⟩ = some (.int .i64 0) ∧ W.cell? ⟨w.heap.size + 2, 2, none⟩ = some (.slice none 0 0) ∧ W.cell? ⟨w.heap.size + 2, 3, none⟩ = some (.slice none 0 0) ∧ W.cell? ⟨w.heap.size + 2, 4, none⟩ = some (.string e0) ∧ W.cell? ⟨w.heap.size + 2, 5, none⟩ = some (.int .i32 0) ∧ W.cell? ⟨w.heap.size + 2, 6, none⟩ = some (.slice (some ⟨w.heap.size + 1, 0, none⟩) 2 2)) := by
    intro W hb
    have k : ∀ i, W.cell? ⟨w.heap.size + 2, i, none⟩ = (((w.alloc (.cells #[.int .i64 13, .int .i64 0, .slice none 0 0, .slice none 0 0, .string e0, .int .i32 43, .slice none 0 0] 31)).alloc (.cells #[.int .i64 16, .int .i64 0, .slice none 0 0, .slice none 0 0, .string e0, .int .i32 47, .slice (some ⟨w.heap.size, 0, none⟩) 1 1, .int .i64 5, .int .i64 0, .slice none 0 0, .slice none 0 0, .string e0, .int .i32 0, .slice none 0 0] 31)).alloc (.cells #[.int .i64 9, .int .i64 0, .slice none 0 0, .slice none 0 0, .string e0, .int .i32 0, .slice (some ⟨w.heap.size + 1, 0, none⟩) 2 2] 31)).cell? ⟨w.heap.size + 2, i, none⟩ := fun i => hb.cell (p := ⟨w.heap.size + 2, i, none⟩) (by simp)
    refine ⟨?_, ?_, ?_, ?_, ?_, ?_, ?_⟩
    all_goals rw [k, World.cell?_alloc_at _ _ _ _ (by simp)]; rfl
  have HB0 := Lib.hid hb0
  have hre : runesBytes [43, 47, 9077] = ⟨#[43, 47, 226, 141, 181]⟩ := by decide +kernel
  have HRE := Lib.hid hre
  have hsq : ((⟨#[43, 47, 226, 141, 181]⟩ : ByteArray).toList == (⟨#[43, 47, 226, 141, 181]⟩ : ByteArray).toList) = true := by simp
  clear ht hb0 hre
  go_enter Tryd.func5, Tryd.ntmps5
  go_wp2_with fail
  generalize hW : (((w.alloc (.cells #[.int .i64 13, .int .i64 0, .slice none 0 0, .slice none 0 0, .string e0, .int .i32 43, .slice none 0 0] 31)).alloc (.cells #[.int .i64 16, .int .i64 0, .slice none 0 0, .slice none 0 0, .string e0, .int .i32 47, .slice (some ⟨w.heap.size, 0, none⟩) 1 1, .int .i64 5, .int .i64 0, .slice none 0 0, .slice none 0 0, .string e0, .int .i32 0, .slice none 0 0] 31)).alloc (.cells #[.int .i64 9, .int .i64 0, .slice none 0 0, .slice none 0 0, .string e0, .int .i32 0, .slice (some ⟨w.heap.size + 1, 0, none⟩) 2 2] 31)) = W at *
  clear hW
  (with_reducible refine HPR.out.mono ?_)
  rintro e w1 ⟨⟨v, rfl, hr⟩, hb⟩
  have hcv := conv_runes3 hr
  rw [HRE.out] at hcv
  obtain ⟨A, cc, n, rfl, -, -⟩ := hr.opn
  obtain ⟨x0, x1, x2, x3, x4, x5, x6⟩ := HCL.out w1 hb
  have HB1 := Lib.hid hb
  clear hb hr
  go_wp2_with fail
  (with_reducible refine (HGD.out _ HB1.out).mono ?_)
  rintro e w2 ⟨rfl, hb⟩
  have HB2 := Lib.hid (HB1.out.trans (hb.mono HB1.out.size))
  clear hb x0 x1 x2 x3 x4 x5 x6 hcv
  obtain ⟨x0, x1, x2, x3, x4, x5, x6⟩ := HCL.out w2 HB2.out
  go_wp2_with fail
  (with_reducible refine (HCT.out _ HB2.out).mono ?_)
  rintro e w3 ⟨rfl, hb⟩
  have HB3 := Lib.hid (HB0.out.trans ((HB2.out.trans (hb.mono HB2.out.size)).mono HB0.out.size))
  clear hb x0 x1 x2 x3 x4 x5 x6
  go_wp2
  go_ret
  exact ⟨rfl, HB3.out⟩
end Go.Proofs.YtmfklpacpjoggaaDoor
