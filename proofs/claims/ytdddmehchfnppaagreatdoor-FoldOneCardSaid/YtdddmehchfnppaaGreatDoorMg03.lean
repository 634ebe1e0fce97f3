/- Merged texts. Words for memory: rows of runes that a call owns; slices that read as lists; one more rune appended. Conditions: as each theorem says. Words for memory: slices of one-cell elements of any type that read as lists; rows that a call owns; appends onto them. Conditions: as each theorem says. -/
import Derived.Test.YtdddmehchfnppaaGreatDoorProg
import Derived.WalkKit
import Derived.WalkLawsBesides
import Derived.Maps.AppendAt
import Derived.Lib.Hide
import Derived.Outline
namespace Go.Proofs.YtdddmehchfnppaaGreatDoor
open Go Go.RowKit Go.Proofs

/-- a slice value whose cells hold a list of runes -/
def Runes (w : World) (v : Value) (l : List Int) : Prop :=
  (∃ a c, v = .slice a 0 c ∧ l = []) ∨
  (∃ b o n c, v = .slice (some ⟨b, o, none⟩) n c ∧ n = l.length ∧ ∀ i (h : i < l.length), w.cell? ⟨b, o + i, none⟩ = some (.int .i32 l[i]))

theorem cell_lt {w : World} {a : Addr} {v : Value} (h : w.cell? a = some v) : a.block < w.heap.size := by
  unfold World.cell? at h
  rcases Nat.lt_or_ge a.block w.heap.size with hlt | hge
  · exact hlt
  · rw [Array.getElem?_eq_none hge] at h; simp at h

theorem Runes.below {w w' : World} {v : Value} {l : List Int} (h : Runes w v l) (hb : Below w.heap.size w w') : Runes w' v l := by
  rcases h with h | ⟨b, o, n, c, rfl, hn, hc⟩
  · exact .inl h
  · exact .inr ⟨b, o, n, c, rfl, hn, fun i hi => by rw [hb.cell (cell_lt (hc i hi))]; exact hc i hi⟩

/-- a row of runes that the call owns -/
def OwnR (w : World) (B : Nat) (v : Value) (l : List Int) : Prop := w.ownsRow B 21 1 v l.length (l.map (Value.int .i32))

theorem OwnR.nil (w : World) (B : Nat) : OwnR w B (.slice none 0 0) [] := World.ownsRow_nil w B _ _

theorem OwnR.runes {w : World} {B : Nat} {v : Value} {l : List Int} (h : OwnR w B v l) : Runes w v l := by
  have h' := h
  rcases h.2 with ⟨rfl, hn⟩ | ⟨g, cap, cur, rfl, hbg, hg, hnc, hcm, hcs, htake⟩
  · exact .inl ⟨none, 0, rfl, List.eq_nil_of_length_eq_zero hn⟩
  · refine .inr ⟨g, 0, l.length, cap, rfl, rfl, fun i hi => ?_⟩
    have := World.ownsRow.cellAt h' i (by omega)
    rw [Nat.zero_add, this]
    simp [hi]

theorem OwnR.len {w : World} {B : Nat} {v : Value} {l : List Int} (h : OwnR w B v l) : ∃ a c, v = .slice a l.length c := by
  rcases h.2 with ⟨rfl, hn⟩ | ⟨g, cap, cur, rfl, _⟩
  · exact ⟨none, 0, by rw [hn]⟩
  · exact ⟨_, _, rfl⟩

theorem OwnR.below {w w' : World} {B : Nat} {v : Value} {l : List Int} (h : OwnR w B v l) (hb : Below w.heap.size w w') : OwnR w' B v l := by
  refine ⟨h.1, ?_⟩
  rcases h.2 with h2 | ⟨g, cap, cur, hv, hbg, hg, r⟩
  · exact .inl h2
  · refine .inr ⟨g, cap, cur, hv, hbg, ?_, r⟩
    have hlt : g < w.heap.size := by
      rcases Nat.lt_or_ge g w.heap.size with hlt | hge
      · exact hlt
      · rw [Array.getElem?_eq_none hge] at hg; cases hg
    rw [hb.block g hlt]; exact hg

theorem OwnR.lower {w : World} {B B' : Nat} {v : Value} {l : List Int} (h : OwnR w B v l) (hB : B' ≤ B) : OwnR w B' v l := by
  refine ⟨h.1, ?_⟩
  rcases h.2 with h2 | ⟨g, cap, cur, hv, hbg, r⟩
  · exact .inl h2
  · exact .inr ⟨g, cap, cur, hv, by omega, r⟩

theorem OwnR.alloc {w : World} {B : Nat} {v : Value} {l : List Int} (h : OwnR w B v l) (o : Obj) : OwnR (w.alloc o) B v l := World.ownsRow.alloc h o

/-- two values that own no row together -/
def Apart (v d : Value) : Prop := v.ownBlock = none ∨ d.ownBlock = none ∨ v.ownBlock ≠ d.ownBlock
theorem Apart.symm {v d : Value} (h : Apart v d) : Apart d v := by
  rcases h with h | h | h
  · exact .inr (.inl h)
  · exact .inl h
  · exact .inr (.inr fun e => h e.symm)

theorem info_i32 : (Tryz.prog.info? 21).map (fun i => (i.zero, i.size, i.bytes)) = some (some (.int .i32 0), 1, 4) := by kernel_rfl

/-- one rune appended to a row that the call owns -/
theorem wpList_app1 {ops : Array Oper} {rest : List Oper} {o : Oper} {a : Act} {Q : Exit → Act → World → Prop} {w : World} (hgd : o.guard = none) (s x : Operand)
    (ho : o.op = .call { callee := .builtin .append, args := #[s, x], argTypes := #[29, 29] })
    (B : Nat) (v : Value) (l : List Int) (hs : a.eval s = v) (hown : OwnR w B v l) (c : Int)
    (hx : a.eval x = .slice (some ⟨w.heap.size, 0, none⟩) 1 1) (hl : l.length ≤ 1099511627776) (hB : B ≤ w.heap.size)
    (h : ∀ v' w', OwnR w' B v' (l ++ [c]) → (∀ w0, Below B w0 w → Below B w0 w') → (∀ d m, OwnR w B d m → Apart v d → OwnR w' B d m ∧ Apart v' d) → w.heap.size ≤ w'.heap.size →
      wpList Tryz.prog ops Q rest (a.put o.dst v') w') : wpList Tryz.prog ops Q (o :: rest) a (w.alloc (.cells #[.int .i32 c] 21)) := by
  obtain ⟨i0, hi0, hz0, hz1, hz2⟩ := info_parts info_i32
  refine wpList_append_own_at _ hgd s x 29 ho B 21 i0 (.int .i32 0) 1 4 Tryz.underlying29 hi0 hz0 hz1 hz2 rfl (by omega) v l.length _ hs
    (World.ownsRow.alloc hown _) ⟨w.heap.size, 0, none⟩ 1 1 [.int .i32 c] hx rfl (cell_one_new w _ _) (by simp [Value.oneCell']) (by unfold maxLen; omega) (by omega) (by simp; omega) ?_
  intro v' w' hown' hg _ hat
  have hsz : w.heap.size + 1 ≤ w'.heap.size := by have := hg.size; simpa using this
  refine h v' w' ?_ ?_ ?_ (by omega)
  · unfold OwnR
    rw [List.length_append, List.map_append]
    exact hown'
  · intro w0 hb
    exact ((hb.alloc hB _).grown hg (by simp; omega) fun k hk => (World.ownsRow.lt hown k hk).1)
  · intro d m hd hap
    have hd' : (w.alloc (.cells #[.int .i32 c] 21)).ownsRow B 21 1 d m.length (m.map (Value.int .i32)) := World.ownsRow.alloc hd _
    refine ⟨World.ownsRow.kept hd' hg ?_, ?_⟩
    · rcases hap with h1 | h1 | h1
      · cases hdb : d.ownBlock with
        | none => exact .inl rfl
        | some k => right; rw [h1]; simp
      · exact .inl h1
      · exact .inr fun e => h1 e.symm
    · rcases hat with e | e
      · unfold Apart; rw [e]; exact hap
      · refine .inr (.inr ?_)
        rw [e]
        intro he
        have := (World.ownsRow.lt hd _ he.symm).2
        simp at this
        omega

/-- a slice of runes appended to a row that the call owns -/
theorem wpList_appL {ops : Array Oper} {rest : List Oper} {o : Oper} {a : Act} {Q : Exit → Act → World → Prop} {w : World} (hgd : o.guard = none) (s x : Operand)
    (ho : o.op = .call { callee := .builtin .append, args := #[s, x], argTypes := #[29, 29] })
    (B : Nat) (v : Value) (l : List Int) (hs : a.eval s = v) (hown : OwnR w B v l) (b f c : Nat) (m : List Int)
    (hx : a.eval x = .slice (some ⟨b, f, none⟩) m.length c) (hc : ∀ i (h : i < m.length), w.cell? ⟨b, f + i, none⟩ = some (.int .i32 m[i])) (hl : l.length + m.length ≤ 1099511627776) (hB : B ≤ w.heap.size)
    (h : ∀ v' w', OwnR w' B v' (l ++ m) → (∀ w0, Below B w0 w → Below B w0 w') → (∀ d k, OwnR w B d k → Apart v d → OwnR w' B d k ∧ Apart v' d) → w.heap.size ≤ w'.heap.size →
      wpList Tryz.prog ops Q rest (a.put o.dst v') w') : wpList Tryz.prog ops Q (o :: rest) a w := by
  obtain ⟨i0, hi0, hz0, hz1, hz2⟩ := info_parts info_i32
  refine wpList_append_own_at _ hgd s x 29 ho B 21 i0 (.int .i32 0) 1 4 Tryz.underlying29 hi0 hz0 hz1 hz2 rfl (by omega) v l.length _ hs
    hown ⟨b, f, none⟩ m.length c (m.map (Value.int .i32)) hx (by simp) ?_ ?_ (by unfold maxLen; omega) (by omega) hB ?_
  · intro j u hj
    rw [List.getElem?_map] at hj
    obtain ⟨z, hz, rfl⟩ := Option.map_eq_some_iff.1 hj
    obtain ⟨hlt, rfl⟩ := List.getElem?_eq_some_iff.1 hz
    rw [← hc j hlt]
    unfold Addr.add; split
    · rename_i h0; subst h0; rfl
    · rfl
  · intro u hu
    obtain ⟨z, _, rfl⟩ := List.mem_map.1 hu
    rfl
  intro v' w' hown' hg _ hat
  refine h v' w' ?_ ?_ ?_ hg.size
  · unfold OwnR
    rw [List.length_append, List.map_append]
    exact hown'
  · intro w0 hb
    exact hb.grown hg hB fun k hk => (World.ownsRow.lt hown k hk).1
  · intro d k hd hap
    refine ⟨World.ownsRow.kept hd hg ?_, ?_⟩
    · rcases hap with h1 | h1 | h1
      · cases hdb : d.ownBlock with
        | none => exact .inl rfl
        | some k => right; rw [h1]; simp
      · exact .inl h1
      · exact .inr fun e => h1 e.symm
    · rcases hat with e | e
      · unfold Apart; rw [e]; exact hap
      · refine .inr (.inr ?_)
        rw [e]
        intro he
        have := (World.ownsRow.lt hd _ he.symm).2
        omega

theorem OwnR.form {w : World} {B : Nat} {v : Value} {l : List Int} (h : OwnR w B v l) (hl : l ≠ []) :
    ∃ g c, v = .slice (some ⟨g, 0, none⟩) l.length c ∧ ∀ w' B', OwnR w' B' v l → ∀ i (hi : i < l.length), w'.cell? ⟨g, i, none⟩ = some (.int .i32 l[i]) := by
  rcases h.2 with ⟨rfl, hn⟩ | ⟨g, cap, cur, rfl, hbg, hg, hnc, hcm, hcs, htake⟩
  · exact absurd (List.eq_nil_of_length_eq_zero hn) hl
  · refine ⟨g, cap, rfl, fun w' B' h' i hi => ?_⟩
    have := World.ownsRow.cellAt h' i (by omega)
    rw [this]
    simp [hi]
end Go.Proofs.YtdddmehchfnppaaGreatDoor
namespace Go.Proofs.YtdddmehchfnppaaGreatDoor
open Go Go.RowKit Go.Proofs

/-- a slice value whose cells hold a list of one-cell values -/
def Reads1 (w : World) (v : Value) (xs : List Value) : Prop :=
  (∃ a c, v = .slice a 0 c ∧ xs = []) ∨
  (∃ b o n c, v = .slice (some ⟨b, o, none⟩) n c ∧ n = xs.length ∧ ∀ i (h : i < xs.length), w.cell? ⟨b, o + i, none⟩ = some xs[i])

theorem Reads1.below {w w' : World} {v : Value} {xs : List Value} (h : Reads1 w v xs) (hb : Below w.heap.size w w') : Reads1 w' v xs := by
  rcases h with h | ⟨b, o, n, c, rfl, hn, hc⟩
  · exact .inl h
  · exact .inr ⟨b, o, n, c, rfl, hn, fun i hi => by rw [hb.cell (cell_lt (hc i hi))]; exact hc i hi⟩

theorem Reads1.len {w : World} {v : Value} {xs : List Value} (h : Reads1 w v xs) : ∃ a c, v = .slice a xs.length c := by
  rcases h with ⟨a, c, rfl, rfl⟩ | ⟨b, o, n, c, rfl, hn, hc⟩
  · exact ⟨a, c, rfl⟩
  · exact ⟨_, c, by rw [hn]⟩

theorem Reads1.cells {w : World} {v : Value} {xs : List Value} (h : Reads1 w v xs) (hne : xs ≠ []) :
    ∃ b o c, v = .slice (some ⟨b, o, none⟩) xs.length c ∧ ∀ i (h : i < xs.length), w.cell? ⟨b, o + i, none⟩ = some xs[i] := by
  rcases h with ⟨a, c, rfl, rfl⟩ | ⟨b, o, n, c, rfl, hn, hc⟩
  · exact absurd rfl hne
  · exact ⟨b, o, c, by rw [hn], hc⟩

/-- a row of one-cell elements of type e that the call owns -/
def Own1 (w : World) (B : Nat) (e : TypeId) (v : Value) (xs : List Value) : Prop := w.ownsRow B e 1 v xs.length xs

theorem Own1.nil (w : World) (B : Nat) (e : TypeId) : Own1 w B e (.slice none 0 0) [] := World.ownsRow_nil w B _ _

theorem Own1.reads {w : World} {B : Nat} {e : TypeId} {v : Value} {xs : List Value} (h : Own1 w B e v xs) : Reads1 w v xs := by
  have h' := h
  rcases h.2 with ⟨rfl, hn⟩ | ⟨g, cap, cur, rfl, hbg, hg, hnc, hcm, hcs, htake⟩
  · exact .inl ⟨none, 0, rfl, List.eq_nil_of_length_eq_zero hn⟩
  · refine .inr ⟨g, 0, xs.length, cap, rfl, rfl, fun i hi => ?_⟩
    have := World.ownsRow.cellAt h' i (by omega)
    rw [Nat.zero_add, this]
    simp [hi]

theorem Own1.below {w w' : World} {B : Nat} {e : TypeId} {v : Value} {xs : List Value} (h : Own1 w B e v xs) (hb : Below w.heap.size w w') : Own1 w' B e v xs := by
  refine ⟨h.1, ?_⟩
  rcases h.2 with h2 | ⟨g, cap, cur, hv, hbg, hg, r⟩
  · exact .inl h2
  · refine .inr ⟨g, cap, cur, hv, hbg, ?_, r⟩
    have hlt : g < w.heap.size := by
      rcases Nat.lt_or_ge g w.heap.size with hlt | hge
      · exact hlt
      · rw [Array.getElem?_eq_none hge] at hg; cases hg
    rw [hb.block g hlt]; exact hg

theorem Own1.alloc {w : World} {B : Nat} {e : TypeId} {v : Value} {xs : List Value} (h : Own1 w B e v xs) (o : Obj) : Own1 (w.alloc o) B e v xs := World.ownsRow.alloc h o

theorem OwnR.own {w : World} {B : Nat} {v : Value} {l : List Int} (h : OwnR w B v l) : Own1 w B 21 v (l.map (Value.int .i32)) := by
  unfold Own1; rw [List.length_map]; exact h

/-- one element appended to a row that the call owns; i: the element type's row, by its slice type t and its type e -/
theorem wpList_push1 {ops : Array Oper} {rest : List Oper} {o : Oper} {a : Act} {Q : Exit → Act → World → Prop} {w : World} (hgd : o.guard = none) (s x : Operand) (t e : TypeId)
    (ho : o.op = .call { callee := .builtin .append, args := #[s, x], argTypes := #[t, t] }) (ht : Tryz.prog.underlying t = some (.slice e)) (z : Value) (bytes : Nat)
    (hinfo : (Tryz.prog.info? e).map (fun i => (i.zero, i.size, i.bytes)) = some (some z, 1, bytes)) (hz : z.cells.size = 1)
    (B : Nat) (v : Value) (xs : List Value) (hs : a.eval s = v) (hown : Own1 w B e v xs) (c : Value) (hc1 : c.oneCell' = true)
    (hx : a.eval x = .slice (some ⟨w.heap.size, 0, none⟩) 1 1) (hl : (xs.length + 1) * bytes ≤ 140737488355328) (hl2 : xs.length + 1 ≤ 140737488355328) (hB : B ≤ w.heap.size)
    (h : ∀ v' w', Own1 w' B e v' (xs ++ [c]) → (∀ w0, Below B w0 w → Below B w0 w') → (∀ e2 d m, w.ownsRow B e2 1 d m.length m → Apart v d → w'.ownsRow B e2 1 d m.length m ∧ Apart v' d) → w.heap.size ≤ w'.heap.size →
      wpList Tryz.prog ops Q rest (a.put o.dst v') w') : wpList Tryz.prog ops Q (o :: rest) a (w.alloc (.cells #[c] e)) := by
  obtain ⟨i0, hi0, hz0, hz1, hz2⟩ := info_parts hinfo
  refine wpList_append_own_at _ hgd s x t ho B e i0 z 1 bytes ht hi0 hz0 hz1 hz2 hz (by omega) v xs.length _ hs
    (World.ownsRow.alloc hown _) ⟨w.heap.size, 0, none⟩ 1 1 [c] hx rfl (cell_one_new w _ _) (by simpa using hc1) (by unfold maxLen; omega) hl (by simp; omega) ?_
  intro v' w' hown' hg _ hat
  have hsz : w.heap.size + 1 ≤ w'.heap.size := by have := hg.size; simpa using this
  refine h v' w' ?_ ?_ ?_ (by omega)
  · unfold Own1
    rw [List.length_append]
    exact hown'
  · intro w0 hb
    exact ((hb.alloc hB _).grown hg (by simp; omega) fun k hk => (World.ownsRow.lt hown k hk).1)
  · intro e2 d m hd hap
    have hd' : (w.alloc (.cells #[c] e)).ownsRow B e2 1 d m.length m := World.ownsRow.alloc hd _
    refine ⟨World.ownsRow.kept hd' hg ?_, ?_⟩
    · rcases hap with h1 | h1 | h1
      · cases hdb : d.ownBlock with
        | none => exact .inl rfl
        | some k => right; rw [h1]; simp
      · exact .inl h1
      · exact .inr fun e => h1 e.symm
    · rcases hat with e | e
      · unfold Apart; rw [e]; exact hap
      · refine .inr (.inr ?_)
        rw [e]
        intro he
        have := (World.ownsRow.lt hd _ he.symm).2
        simp at this
        omega
end Go.Proofs.YtdddmehchfnppaaGreatDoor
