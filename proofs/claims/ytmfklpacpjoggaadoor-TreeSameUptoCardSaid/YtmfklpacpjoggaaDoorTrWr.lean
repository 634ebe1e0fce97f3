/- The writer of trees' texts: its memory; the walk of put. Conditions: as each theorem says. -/
import Derived.Test.YtmfklpacpjoggaaDoorTrNd
import Derived.Deep.QuietTactic
import Derived.BigQuiet
import Derived.OneCell
import Derived.IntWalk
namespace Go.Proofs.YtmfklpacpjoggaaDoor
open Go Go.RowKit Go.Proofs Fl

/-- a writer and what it has written -/
structure WSt (w : World) (B g : Nat) (v : Value) (l : List Int) : Prop where
  hB : B ≤ g
  blk : w.heap[g]? = some (.cells #[v] 46 (0, 0))
  own : OwnR w B v l
  ne : v.ownBlock ≠ some g

/-- nothing but the writer, and its row, was written -/
structure Grew (g : Nat) (v : Value) (w w' : World) (v' : Value) : Prop where
  b0 : Below 0 w w'
  row : ∀ b, v'.ownBlock = some b → v.ownBlock = some b ∨ w.heap.size ≤ b
  keep : ∀ b, b < w.heap.size → b ≠ g → v.ownBlock ≠ some b → w'.heap[b]? = w.heap[b]?

theorem Grew.trans {g : Nat} {v v1 v2 : Value} {w w1 w2 : World} (h : Grew g v w w1 v1) (k : Grew g v1 w1 w2 v2) : Grew g v w w2 v2 := by
  have hz := h.b0.size
  refine ⟨h.b0.trans k.b0, fun b hb => ?_, fun b hb hg hv => ?_⟩
  · rcases k.row b hb with h1 | h1
    · exact h.row b h1
    · exact .inr (by omega)
  · rw [k.keep b (by omega) hg (fun e => ?_), h.keep b hb hg hv]
    rcases h.row b e with h1 | h1
    · exact hv h1
    · omega
theorem WSt.lt {w : World} {B g : Nat} {v : Value} {l : List Int} (h : WSt w B g v l) : g < w.heap.size := lt_of_block h.blk
theorem WSt.leB {w : World} {B g : Nat} {v : Value} {l : List Int} (h : WSt w B g v l) : B ≤ w.heap.size := by have := h.lt; have := h.hB; omega
theorem WSt.below {w w' : World} {B g : Nat} {v : Value} {l : List Int} (h : WSt w B g v l) (hb : Below w.heap.size w w') : WSt w' B g v l ∧ Grew g v w w' v :=
  ⟨⟨h.hB, by rw [hb.block g h.lt]; exact h.blk, h.own.below hb, h.ne⟩, ⟨hb.mono (Nat.zero_le _), fun _ hb => .inl hb, fun b hlt _ _ => hb.block b hlt⟩⟩
theorem WSt.stored {W w' : World} {B g : Nat} {v v' : Value} {l l' : List Int} (h : WSt W B g v l) (own' : OwnR w' B v' l') (hg : W.grownBy w' v.ownBlock) (hat : v'.ownBlock = v.ownBlock ∨ v'.ownBlock = some W.heap.size) :
    WSt (w'.setCell ⟨g, 0, none⟩ v') B g v' l' ∧ Grew g v W (w'.setCell ⟨g, 0, none⟩ v') v' := by
  have hb : w'.heap[g]? = some (.cells #[v] 46 (0, 0)) := by rw [hg.block g h.lt h.ne.symm]; exact h.blk
  have hne : v'.ownBlock ≠ some g := by
    rcases hat with e | e
    · rw [e]; exact h.ne
    · rw [e]; have := h.lt; simp; omega
  refine ⟨⟨h.hB, one_setCell hb, ownsRow_setCell_other own' hne _, hne⟩, ⟨?_, ?_, ?_⟩⟩
  · exact (((Below.refl 0 W).grown hg (Nat.zero_le _) fun _ _ => Nat.zero_le _)).setCell (Nat.zero_le _) _
  · intro b hb
    rcases hat with e | e
    · rw [e] at hb; exact .inl hb
    · rw [e] at hb; simp at hb; exact .inr (by omega)
  · intro b hlt hbg hv
    rw [Below.heap_setCell _ _ _ _ (by simpa using hbg), hg.block b hlt hv.symm]
theorem WSt.cell {w : World} {B g : Nat} {v : Value} {l : List Int} (h : WSt w B g v l) : w.cell? ⟨g, 0, none⟩ = some v ∧ w.frozen? ⟨g, 0, none⟩ = false := ⟨cell_of_one h.blk, free_of_one h.blk⟩
theorem WSt.cellG {W w' : World} {B g : Nat} {v : Value} {l : List Int} (h : WSt W B g v l) (hg : W.grownBy w' v.ownBlock) : w'.cell? ⟨g, 0, none⟩ = some v ∧ w'.frozen? ⟨g, 0, none⟩ = false := by
  have hb : w'.heap[g]? = some (.cells #[v] 46 (0, 0)) := by rw [hg.block g h.lt h.ne.symm]; exact h.blk
  exact ⟨cell_of_one hb, free_of_one hb⟩

theorem WSt.belowB {w w' : World} {B g : Nat} {v v' : Value} {l : List Int} (h : WSt w B g v l) (k : Grew g v w w' v') : Below B w w' :=
  ⟨k.b0.os, k.b0.tape, k.b0.output, k.b0.size, fun b hb => k.keep b (by have := h.leB; omega) (by have := h.hB; omega) (fun e => by have := (World.ownsRow.lt h.own b e).1; omega)⟩

/-- runes appended to the writer's row -/
theorem wpList_appG {ops : Array Oper} {rest : List Oper} {o : Oper} {a : Act} {Q : Exit → Act → World → Prop} {w : World} (hgd : o.guard = none) (s x : Operand)
    (ho : o.op = .call { callee := .builtin .append, args := #[s, x], argTypes := #[23, 23] })
    (B : Nat) (hBw : B ≤ w.heap.size) (v : Value) (l : List Int) (hs : a.eval s = v) (hown : OwnR w B v l) (b f n c : Nat) (m : List Int) (hn : n = m.length)
    (hx : a.eval x = .slice (some ⟨b, f, none⟩) n c) (hc : ∀ i (h : i < m.length), w.cell? ⟨b, f + i, none⟩ = some (.int .i32 m[i])) (hl : l.length + m.length ≤ 1099511627776)
    (h : ∀ av nn cv w', OwnR w' B (.slice av nn cv) (l ++ m) → w.grownBy w' v.ownBlock → ((Value.slice av nn cv).ownBlock = v.ownBlock ∨ (Value.slice av nn cv).ownBlock = some w.heap.size) → wpList Tryd.prog ops Q rest (a.put o.dst (.slice av nn cv)) w') : wpList Tryd.prog ops Q (o :: rest) a w := by
  subst hn
  obtain ⟨i0, hi0, hz0, hz1, hz2⟩ := info_parts info_i32
  refine wpList_append_own_at _ hgd s x 23 ho B 21 i0 (.int .i32 0) 1 4 Tryd.underlying23 hi0 hz0 hz1 hz2 rfl (by omega) v l.length _ hs
    hown ⟨b, f, none⟩ m.length c (m.map (Value.int .i32)) hx (by simp) ?_ ?_ (by unfold maxLen; omega) (by omega) hBw ?_
  · intro j u hj
    rw [List.getElem?_map] at hj
    obtain ⟨z, hz, rfl⟩ := Option.map_eq_some_iff.1 hj
    obtain ⟨hlt, rfl⟩ := List.getElem?_eq_some_iff.1 hz
    rw [← hc j hlt]
    unfold Addr.add; split
    · rename_i h0; subst h0; rfl
    · rfl
  · intro u hu
    obtain ⟨z, _, rfl⟩ := List.mem_map.1 hu
    rfl
  intro v' w' hown' hg _ hat
  have ho2 : OwnR w' B v' (l ++ m) := by
    unfold OwnR
    rw [List.length_append, List.map_append]
    exact hown'
  obtain ⟨av, cv, rfl⟩ := ho2.len
  exact h av _ cv w' ho2 hg hat

/-- is a sign part of a name or a number? -/
def wordyB (c : Int) : Bool := digB c || decide (c = 175) || letB c
theorem wordy_walk (c : Int) (w : World) : Calls Tryd.prog 42 #[.int .i32 c] w fun e w' => e = .returned (.bool (wordyB c)) ∧ w = w' := by
  have HR : Hid (wordyB c = decide (48 ≤ c ∧ c ≤ 57 ∨ c = 175 ∨ 97 ≤ c ∧ c ≤ 122 ∨ 65 ≤ c ∧ c ≤ 90 ∨ c = 95 ∨ c = 8710)) := by
    unfold Hid wordyB digB letB; rw [Bool.eq_iff_iff]; simp [or_assoc]
  generalize wordyB c = R at *
  go_enter Tryd.func42, Tryd.ntmps42
  go_wp2
  all_goals go_ret
  all_goals exact ⟨by rw [HR.out]; clear HR; (show Ending.returned (Value.bool _) = _); refine congrArg (fun b => Ending.returned (Value.bool b)) ?_; rw [Bool.eq_iff_iff]; simp [*]; try omega, rfl⟩

/-- must a blank stand between two signs? -/
def blankB (x y : Int) : Bool := wordyB x && wordyB y || decide (x = 39) && decide (y = 39)
/-- two parts of a text -/
def joinP (l s : List Int) : List Int := if l ≠ [] ∧ s ≠ [] ∧ blankB (l.getLastD 0) (s.headD 0) = true then l ++ [32] ++ s else l ++ s

/-- signs that a walk may read beside the writer -/
def Beside (w : World) (g : Nat) (v : Value) (b f : Nat) (s : List Int) : Prop := b ≠ g ∧ v.ownBlock ≠ some b ∧ b < w.heap.size ∧ ∀ i (h : i < s.length), w.cell? ⟨b, f + i, none⟩ = some (.int .i32 s[i])
theorem Beside.grew {w w' : World} {g : Nat} {v v' : Value} {b f : Nat} {s : List Int} (h : Beside w g v b f s) (k : Grew g v w w' v') : Beside w' g v' b f s := by
  have hz := k.b0.size
  refine ⟨h.1, fun e => ?_, by have := h.2.2.1; omega, fun i hi => ?_⟩
  · rcases k.row b e with h1 | h1
    · exact h.2.1 h1
    · have := h.2.2.1; omega
  · rw [World.cell?_of_block (k.keep b h.2.2.1 h.1 h.2.1)]; exact h.2.2.2 i hi

set_option maxRecDepth 100000 in
set_option maxHeartbeats 1600000 in
theorem put_first (B g : Nat) (v : Value) (b f n c : Nat) (s : List Int) (w : World) (hw : WSt w B g v []) (hb : Beside w g v b f s) (hn : Hid (n = s.length)) (hl : s.length ≤ 1099511627776) :
    Calls Tryd.prog 21 #[.pointer (some ⟨g, 0, none⟩), .slice (some ⟨b, f, none⟩) n c] w fun e w' => e = .returned (.tuple #[]) ∧ ∃ v', WSt w' B g v' s ∧ Grew g v w w' v' := by
  obtain ⟨A, z, cap, rfl, hz0⟩ : ∃ A z cap, v = .slice A z cap ∧ ¬ 0 < z := by
    obtain ⟨A, cap, h⟩ := hw.own.len
    exact ⟨A, _, cap, h, by simp⟩
  have HW := Lib.hid hw
  have HBS := Lib.hid hb
  have HL := Lib.hid hl
  obtain ⟨hc, hf⟩ := hw.cell
  clear hw hb hl
  go_enter Tryd.func21, Tryd.ntmps21
  go_wp2_with (at_builtin; refine wpList_appG rfl _ _ rfl B HW.out.leB (.slice A z cap) [] rfl HW.out.own b f n c s hn.out rfl HBS.out.2.2.2 (by simpa using HL.out) ?_; intro av nn cv w1 hown hg hat; obtain ⟨hc1, hf1⟩ := HW.out.cellG hg; have HS := Lib.hid (HW.out.stored hown hg hat); clear hown hg hat)
  go_end0
  exact ⟨rfl, _, HS.out.1, HS.out.2⟩

theorem one_cells (w : World) (c : Int) : ∀ i (h : i < [c].length), (w.alloc (.cells #[.int .i32 c] 21)).cell? ⟨w.heap.size, 0 + i, none⟩ = some (.int .i32 [c][i]) := by
  intro i hi
  have h0 : i = 0 := by simpa using hi
  subst h0
  exact World.cell?_alloc_at _ _ _ _ rfl
theorem lenA {l s : List Int} {x c : Int} (h : l.length + s.length ≤ 1099511627000) : (l ++ [x]).length + [c].length ≤ 1099511627776 := by simp; omega
theorem lenB {l s : List Int} {x c y : Int} (h : l.length + s.length ≤ 1099511627000) : (l ++ [x] ++ [c]).length + (y :: s).length ≤ 1099511627776 := by simp; omega

theorem wrap_pred {k : Nat} (h : k ≤ 1099511627000) : IntKind.i64.wrap (((k + 1 : Nat) : Int) - 1) = (k : Int) := by
  have e : (((k + 1 : Nat) : Int) - 1) = (k : Int) := by omega
  rw [e]; exact IntWalk.i64_in _ (by omega)

set_option maxRecDepth 100000 in
set_option maxHeartbeats 1600000 in
theorem put_blank (B g : Nat) (v : Value) (b f n c : Nat) (l s : List Int) (x y : Int) (w : World) (hw : WSt w B g v (l ++ [x])) (hb : Beside w g v b f (y :: s)) (hn : Hid (n = (y :: s).length)) (hl : l.length + s.length ≤ 1099511627000) (hB : blankB x y = true) :
    Calls Tryd.prog 21 #[.pointer (some ⟨g, 0, none⟩), .slice (some ⟨b, f, none⟩) n c] w fun e w' => e = .returned (.tuple #[]) ∧ ∃ v', WSt w' B g v' (l ++ [x] ++ [32] ++ y :: s) ∧ Grew g v w w' v' := by
  have hrow := hw.own
  obtain ⟨r, cap, rfl, hrc⟩ := hrow.form (by simp)
  have hlast := hrc _ _ hrow l.length (by simp)
  rw [List.getElem_append_right (Nat.le_refl _)] at hlast
  simp only [Nat.sub_self, List.getElem_singleton] at hlast
  have hhead := hb.2.2.2 0 (by simp)
  simp only [List.getElem_cons_zero, Nat.add_zero] at hhead
  have hn1 : 0 < n := by rw [hn.out]; simp
  obtain ⟨k, hk⟩ : ∃ k, k = l.length := ⟨_, rfl⟩
  simp only [List.length_append, List.length_singleton, ← hk] at hw hb hlast
  have hk2 : k ≤ 1099511627000 := by omega
  have HW := Lib.hid hw
  have HBS := Lib.hid hb
  have HL := Lib.hid hl
  have HX := Lib.hid (wordy_walk x)
  have HYY := Lib.hid (wordy_walk y)
  obtain ⟨hc, hf⟩ := hw.cell
  have hq1 := wrap_pred hk2
  simp only [List.length_append, List.length_singleton, ← hk]
  have hways : (wordyB x = true ∧ wordyB y = true) ∨ (x = 39 ∧ y = 39) := by
    unfold blankB at hB; simpa using hB
  clear hw hb hl hrow hrc hk hB
  rcases hways with ⟨hx, hy⟩ | ⟨rfl, rfl⟩
  · rw [hx] at HX
    rw [hy] at HYY
    clear hx hy
    go_enter Tryd.func21, Tryd.ntmps21
    go_wp2_with fail
    go_quiet (fail)
    rename_i nq
    have hb1 : Below w.heap.size w (w.drewN nq) := Below.drewN2 (Below.refl _ w) nq
    obtain ⟨hw1, hg1⟩ := HW.out.below hb1
    have HW1 := Lib.hid hw1
    have HG1 := Lib.hid hg1
    have HBS1 := Lib.hid (HBS.out.grew hg1)
    obtain ⟨hc, hf⟩ := hw1.cell
    have hhead : (w.drewN nq).cell? ⟨b, f, none⟩ = some (.int .i32 y) := by have := HBS1.out.2.2.2 0 (by simp); simpa using this
    clear hb1 hw1 hg1 hlast HW HBS hq1
    generalize w.drewN nq = w1 at *
    have HWA' := HW1.out.below ((Below.refl _ w1).alloc (Nat.le_refl _) (.cells #[.int .i32 32] 21))
    have HWA := Lib.hid HWA'.1
    have HGA := Lib.hid HWA'.2
    have HBA := Lib.hid (HBS1.out.grew HWA'.2)
    clear HWA'
    go_wp2_with fail
    refine (HX.out _).mono ?_
    rintro e w' ⟨rfl, rfl⟩
    go_wp2_with fail
    refine (HYY.out _).mono ?_
    rintro e w' ⟨rfl, rfl⟩
    go_wp2_with (first | (at_builtin; refine wpList_appG rfl _ _ rfl B HWA.out.leB (.slice (some ⟨r, 0, none⟩) (k + 1) cap) (l ++ [x]) rfl (HW1.out.own.alloc _) w1.heap.size 0 1 1 [32] rfl rfl (one_cells _ 32) (lenA HL.out) ?_; intro av nn cv w2 hown hg hat; obtain ⟨hc2, hf2⟩ := HWA.out.cellG hg; have HS := Lib.hid (HWA.out.stored hown hg hat); clear hown hg hat; have HSB := Lib.hid (HBA.out.grew HS.out.2)) | (at_builtin; refine wpList_appG rfl _ _ rfl B HS.out.1.leB (.slice av nn cv) (l ++ [x] ++ [32]) rfl HS.out.1.own b f n c (y :: s) hn.out rfl HSB.out.2.2.2 (lenB HL.out) ?_; intro av2 nn2 cv2 w3 hown hg hat; obtain ⟨hc3, hf3⟩ := HS.out.1.cellG hg; have HE := Lib.hid (HS.out.1.stored hown hg hat); clear hown hg hat))
    go_end0
    exact ⟨rfl, _, HE.out.1, HG1.out.trans ((HGA.out.trans HS.out.2).trans HE.out.2)⟩
  · have hx : wordyB 39 = false := by decide
    rw [hx] at HX
    clear hx HYY
    go_enter Tryd.func21, Tryd.ntmps21
    go_wp2_with fail
    go_quiet (fail)
    rename_i nq
    have hb1 : Below w.heap.size w (w.drewN nq) := Below.drewN2 (Below.refl _ w) nq
    obtain ⟨hw1, hg1⟩ := HW.out.below hb1
    have HW1 := Lib.hid hw1
    have HG1 := Lib.hid hg1
    have HBS1 := Lib.hid (HBS.out.grew hg1)
    obtain ⟨hc, hf⟩ := hw1.cell
    have hhead : (w.drewN nq).cell? ⟨b, f, none⟩ = some (.int .i32 39) := by have := HBS1.out.2.2.2 0 (by simp); simpa using this
    clear hb1 hw1 hg1 hlast HW HBS hq1
    generalize w.drewN nq = w1 at *
    have HWA' := HW1.out.below ((Below.refl _ w1).alloc (Nat.le_refl _) (.cells #[.int .i32 32] 21))
    have HWA := Lib.hid HWA'.1
    have HGA := Lib.hid HWA'.2
    have HBA := Lib.hid (HBS1.out.grew HWA'.2)
    clear HWA'
    go_wp2_with fail
    refine (HX.out _).mono ?_
    rintro e w' ⟨rfl, rfl⟩
    go_wp2_with (first | (at_builtin; refine wpList_appG rfl _ _ rfl B HWA.out.leB (.slice (some ⟨r, 0, none⟩) (k + 1) cap) (l ++ [39]) rfl (HW1.out.own.alloc _) w1.heap.size 0 1 1 [32] rfl rfl (one_cells _ 32) (lenA HL.out) ?_; intro av nn cv w2 hown hg hat; obtain ⟨hc2, hf2⟩ := HWA.out.cellG hg; have HS := Lib.hid (HWA.out.stored hown hg hat); clear hown hg hat; have HSB := Lib.hid (HBA.out.grew HS.out.2)) | (at_builtin; refine wpList_appG rfl _ _ rfl B HS.out.1.leB (.slice av nn cv) (l ++ [39] ++ [32]) rfl HS.out.1.own b f n c (39 :: s) hn.out rfl HSB.out.2.2.2 (lenB HL.out) ?_; intro av2 nn2 cv2 w3 hown hg hat; obtain ⟨hc3, hf3⟩ := HS.out.1.cellG hg; have HE := Lib.hid (HS.out.1.stored hown hg hat); clear hown hg hat))
    go_end0
    exact ⟨rfl, _, HE.out.1, HG1.out.trans ((HGA.out.trans HS.out.2).trans HE.out.2)⟩

set_option maxRecDepth 100000 in
set_option maxHeartbeats 1600000 in
theorem put_plain (B g : Nat) (v : Value) (b f n c : Nat) (l s : List Int) (x y : Int) (w : World) (hw : WSt w B g v (l ++ [x])) (hb : Beside w g v b f (y :: s)) (hn : Hid (n = (y :: s).length)) (hl : l.length + s.length ≤ 1099511627000) (hB : blankB x y = false) :
    Calls Tryd.prog 21 #[.pointer (some ⟨g, 0, none⟩), .slice (some ⟨b, f, none⟩) n c] w fun e w' => e = .returned (.tuple #[]) ∧ ∃ v', WSt w' B g v' (l ++ [x] ++ y :: s) ∧ Grew g v w w' v' := by
  have hrow := hw.own
  obtain ⟨r, cap, rfl, hrc⟩ := hrow.form (by simp)
  have hlast := hrc _ _ hrow l.length (by simp)
  rw [List.getElem_append_right (Nat.le_refl _)] at hlast
  simp only [Nat.sub_self, List.getElem_singleton] at hlast
  have hhead := hb.2.2.2 0 (by simp)
  simp only [List.getElem_cons_zero, Nat.add_zero] at hhead
  have hn1 : 0 < n := by rw [hn.out]; simp
  obtain ⟨k, hk⟩ : ∃ k, k = l.length := ⟨_, rfl⟩
  simp only [List.length_append, List.length_singleton, ← hk] at hw hb hlast
  have hk2 : k ≤ 1099511627000 := by omega
  have HW := Lib.hid hw
  have HBS := Lib.hid hb
  have HL := Lib.hid hl
  have HX := Lib.hid (wordy_walk x)
  have HYY := Lib.hid (wordy_walk y)
  obtain ⟨hc, hf⟩ := hw.cell
  have hq1 := wrap_pred hk2
  simp only [List.length_append, List.length_singleton, ← hk]
  have hways : (wordyB x = true ∧ wordyB y = false ∧ (x == 39) = false) ∨ (wordyB x = false ∧ (x == 39) = false) ∨ (wordyB x = false ∧ (x == 39) = true ∧ (y == 39) = false) := by
    have h39 : wordyB 39 = false := by decide
    unfold blankB at hB
    by_cases e : x = 39
    · subst e
      simp only [h39, Bool.false_and, Bool.false_or, decide_true, Bool.true_and, decide_eq_false_iff_not] at hB
      exact .inr (.inr ⟨h39, by simp, by simpa using hB⟩)
    · cases hx : wordyB x with
      | false => exact .inr (.inl ⟨rfl, by simpa using e⟩)
      | true => rw [hx] at hB; exact .inl ⟨rfl, by simpa [e] using hB, by simpa using e⟩
  clear hw hb hl hrow hrc hk hB
  rcases hways with ⟨hx, hy, h1⟩ | ⟨hx, h1⟩ | ⟨hx, h1, h2⟩
  · rw [hx] at HX
    rw [hy] at HYY
    clear hx hy
    go_enter Tryd.func21, Tryd.ntmps21
    go_wp2_with fail
    go_quiet (fail)
    rename_i nq
    have hb1 : Below w.heap.size w (w.drewN nq) := Below.drewN2 (Below.refl _ w) nq
    obtain ⟨hw1, hg1⟩ := HW.out.below hb1
    have HW1 := Lib.hid hw1
    have HG1 := Lib.hid hg1
    have HBS1 := Lib.hid (HBS.out.grew hg1)
    obtain ⟨hc, hf⟩ := hw1.cell
    have hhead : (w.drewN nq).cell? ⟨b, f, none⟩ = some (.int .i32 y) := by have := HBS1.out.2.2.2 0 (by simp); simpa using this
    clear hb1 hw1 hg1 hlast HW HBS hq1
    generalize w.drewN nq = w1 at *
    go_wp2_with fail
    refine (HX.out _).mono ?_
    rintro e w' ⟨rfl, rfl⟩
    go_wp2_with fail
    refine (HYY.out _).mono ?_
    rintro e w' ⟨rfl, rfl⟩
    go_wp2_with (at_builtin; refine wpList_appG rfl _ _ rfl B HW1.out.leB (.slice (some ⟨r, 0, none⟩) (k + 1) cap) (l ++ [x]) rfl HW1.out.own b f n c (y :: s) hn.out rfl HBS1.out.2.2.2 (by have := HL.out; first | (simp; omega) | (simp; done) | omega) ?_; intro av2 nn2 cv2 w3 hown hg hat; obtain ⟨hc3, hf3⟩ := HW1.out.cellG hg; have HE := Lib.hid (HW1.out.stored hown hg hat); clear hown hg hat)
    go_end0
    exact ⟨rfl, _, HE.out.1, HG1.out.trans HE.out.2⟩
  · rw [hx] at HX
    clear hx HYY
    go_enter Tryd.func21, Tryd.ntmps21
    go_wp2_with fail
    go_quiet (fail)
    rename_i nq
    have hb1 : Below w.heap.size w (w.drewN nq) := Below.drewN2 (Below.refl _ w) nq
    obtain ⟨hw1, hg1⟩ := HW.out.below hb1
    have HW1 := Lib.hid hw1
    have HG1 := Lib.hid hg1
    have HBS1 := Lib.hid (HBS.out.grew hg1)
    obtain ⟨hc, hf⟩ := hw1.cell
    have hhead : (w.drewN nq).cell? ⟨b, f, none⟩ = some (.int .i32 y) := by have := HBS1.out.2.2.2 0 (by simp); simpa using this
    clear hb1 hw1 hg1 hlast HW HBS hq1
    generalize w.drewN nq = w1 at *
    go_wp2_with fail
    refine (HX.out _).mono ?_
    rintro e w' ⟨rfl, rfl⟩
    go_wp2_with (at_builtin; refine wpList_appG rfl _ _ rfl B HW1.out.leB (.slice (some ⟨r, 0, none⟩) (k + 1) cap) (l ++ [x]) rfl HW1.out.own b f n c (y :: s) hn.out rfl HBS1.out.2.2.2 (by have := HL.out; first | (simp; omega) | (simp; done) | omega) ?_; intro av2 nn2 cv2 w3 hown hg hat; obtain ⟨hc3, hf3⟩ := HW1.out.cellG hg; have HE := Lib.hid (HW1.out.stored hown hg hat); clear hown hg hat)
    go_end0
    exact ⟨rfl, _, HE.out.1, HG1.out.trans HE.out.2⟩
  · rw [hx] at HX
    clear hx HYY
    go_enter Tryd.func21, Tryd.ntmps21
    go_wp2_with fail
    go_quiet (fail)
    rename_i nq
    have hb1 : Below w.heap.size w (w.drewN nq) := Below.drewN2 (Below.refl _ w) nq
    obtain ⟨hw1, hg1⟩ := HW.out.below hb1
    have HW1 := Lib.hid hw1
    have HG1 := Lib.hid hg1
    have HBS1 := Lib.hid (HBS.out.grew hg1)
    obtain ⟨hc, hf⟩ := hw1.cell
    have hhead : (w.drewN nq).cell? ⟨b, f, none⟩ = some (.int .i32 y) := by have := HBS1.out.2.2.2 0 (by simp); simpa using this
    clear hb1 hw1 hg1 hlast HW HBS hq1
    generalize w.drewN nq = w1 at *
    go_wp2_with fail
    refine (HX.out _).mono ?_
    rintro e w' ⟨rfl, rfl⟩
    go_wp2_with (at_builtin; refine wpList_appG rfl _ _ rfl B HW1.out.leB (.slice (some ⟨r, 0, none⟩) (k + 1) cap) (l ++ [x]) rfl HW1.out.own b f n c (y :: s) hn.out rfl HBS1.out.2.2.2 (by have := HL.out; first | (simp; omega) | (simp; done) | omega) ?_; intro av2 nn2 cv2 w3 hown hg hat; obtain ⟨hc3, hf3⟩ := HW1.out.cellG hg; have HE := Lib.hid (HW1.out.stored hown hg hat); clear hown hg hat)
    go_end0
    exact ⟨rfl, _, HE.out.1, HG1.out.trans HE.out.2⟩

theorem joinP_nil (s : List Int) : joinP [] s = s := by unfold joinP; simp
theorem put_walk (B g : Nat) (v : Value) (b f n c : Nat) (l s : List Int) (w : World) (hs : s ≠ []) (hw : WSt w B g v l) (hb : Beside w g v b f s) (hn : n = s.length) (hl : l.length + s.length ≤ 1099511627000) :
    Calls Tryd.prog 21 #[.pointer (some ⟨g, 0, none⟩), .slice (some ⟨b, f, none⟩) n c] w fun e w' => e = .returned (.tuple #[]) ∧ ∃ v', WSt w' B g v' (joinP l s) ∧ Grew g v w w' v' := by
  match s, hs with
  | y :: s', _ =>
    by_cases h0 : l = []
    · subst h0
      rw [joinP_nil]
      exact put_first B g v b f n c (y :: s') w hw hb hn (by rw [List.length_nil] at hl; omega)
    · obtain ⟨r, x, rfl⟩ : ∃ r x, l = r ++ [x] := ⟨l.dropLast, l.getLast h0, (List.dropLast_concat_getLast _).symm⟩
      have e : joinP (r ++ [x]) (y :: s') = if blankB x y = true then r ++ [x] ++ [32] ++ y :: s' else r ++ [x] ++ y :: s' := by
        unfold joinP; simp
      rw [e]
      simp only [List.length_append, List.length_cons, List.length_nil] at hl
      cases hB : blankB x y with
      | true => exact put_blank B g v b f n c r s' x y w hw hb hn (by omega) hB
      | false => exact put_plain B g v b f n c r s' x y w hw hb hn (by omega) hB
end Go.Proofs.YtmfklpacpjoggaaDoor
