/- Words for memory: rows of words that a call owns; one more word appended. Conditions: as each theorem says. -/
import Derived.Test.YtnhnaallalgefaaDoorLexK
import Derived.Test.YtnhnaallalgefaaDoorVal
import Derived.Test.YtnhnaallalgefaaDoorRai
namespace Go.Proofs.YtnhnaallalgefaaDoor
open Go Go.RowKit Go.Proofs Fl

/-- the cells of a word -/
def tokC (p : Tok × Value) : List Value := [.int .i64 p.1.kind, .int .i64 p.1.at_, .float .f64 p.1.num, p.2, .string p.1.name, .int .i32 p.1.char]
def cellsT (ps : List (Tok × Value)) : List Value := ps.flatMap tokC
theorem cellsT_len (ps : List (Tok × Value)) : (cellsT ps).length = ps.length * 6 := by
  induction ps with
  | nil => rfl
  | cons p ps ih => unfold cellsT at *; rw [List.flatMap_cons, List.length_append, ih]; simp [tokC]; omega
theorem cellsT_snoc (ps : List (Tok × Value)) (p : Tok × Value) : cellsT (ps ++ [p]) = cellsT ps ++ tokC p := by unfold cellsT; simp

theorem info_tok : (Tryd.prog.info? 136).map (fun i => (i.zero, i.size, i.bytes)) = some (some (.agg #[.int .i64 0, .int .i64 0, .float .f64 0, .slice none 0 0, .string ⟨#[]⟩, .int .i32 0]), 6, 72) := by kernel_rfl

/-- a row of words that the call owns, and the texts that it owns besides -/
def ToksOwn (w : World) (B : Nat) (v : Value) (ps : List (Tok × Value)) : Prop :=
  w.ownsRow B 136 6 v ps.length (cellsT ps) ∧ ∀ p ∈ ps, OwnR w B p.2 p.1.text ∧ Apart v p.2

theorem ToksOwn.nil (w : World) (B : Nat) : ToksOwn w B (.slice none 0 0) [] := ⟨World.ownsRow_nil w B _ _, fun p h => by cases h⟩

theorem ownsRow_below {w w' : World} {B : Nat} {e : TypeId} {s n : Nat} {v : Value} {xs : List Value} (h : w.ownsRow B e s v n xs) (hb : Below w.heap.size w w') : w'.ownsRow B e s v n xs := by
  refine ⟨h.1, ?_⟩
  rcases h.2 with h2 | ⟨g, cap, cur, hv, hbg, hg, r⟩
  · exact .inl h2
  · refine .inr ⟨g, cap, cur, hv, hbg, ?_, r⟩
    have hlt : g < w.heap.size := by
      rcases Nat.lt_or_ge g w.heap.size with hlt | hge
      · exact hlt
      · rw [Array.getElem?_eq_none hge] at hg; cases hg
    rw [hb.block g hlt]; exact hg

theorem ToksOwn.below {w w' : World} {B : Nat} {v : Value} {ps : List (Tok × Value)} (h : ToksOwn w B v ps) (hb : Below w.heap.size w w') : ToksOwn w' B v ps :=
  ⟨ownsRow_below h.1 hb, fun p hp => ⟨(h.2 p hp).1.below hb, (h.2 p hp).2⟩⟩

theorem ToksOwn.len {w : World} {B : Nat} {v : Value} {ps : List (Tok × Value)} (h : ToksOwn w B v ps) : ∃ a c, v = .slice a ps.length c := by
  rcases h.1.2 with ⟨rfl, hn⟩ | ⟨g, cap, cur, rfl, _⟩
  · exact ⟨none, 0, by rw [hn]⟩
  · exact ⟨_, _, rfl⟩

/-- one word appended to a row that the call owns -/
theorem wpList_pushT {ops : Array Oper} {rest : List Oper} {o : Oper} {a : Act} {Q : Exit → Act → World → Prop} {w : World} (hgd : o.guard = none) (s x : Operand)
    (ho : o.op = .call { callee := .builtin .append, args := #[s, x], argTypes := #[132, 132] })
    (B : Nat) (v : Value) (ps : List (Tok × Value)) (hs : a.eval s = v) (hown : ToksOwn w B v ps) (p : Tok × Value) (hp1 : p.2.oneCell' = true) (hp2 : OwnR w B p.2 p.1.text) (hp3 : Apart v p.2)
    (G : Nat) (hx : a.eval x = .slice (some ⟨G, 0, none⟩) 1 1) (hG : w.heap.size = G) (hl : ps.length ≤ 1000000) (hB : B ≤ w.heap.size)
    (h : ∀ v' w', ToksOwn w' B v' (ps ++ [p]) → (∀ w0, Below B w0 w → Below B w0 w') → wpList Tryd.prog ops Q rest (a.put o.dst v') w') :
    wpList Tryd.prog ops Q (o :: rest) a (w.alloc (.cells #[.int .i64 p.1.kind, .int .i64 p.1.at_, .float .f64 p.1.num, p.2, .string p.1.name, .int .i32 p.1.char] 136)) := by
  subst hG
  obtain ⟨i0, hi0, hz0, hz1, hz2⟩ := info_parts info_tok
  refine wpList_append_own_at _ hgd s x 132 ho B 136 i0 _ 6 72 Tryd.underlying132 hi0 hz0 hz1 hz2 rfl (by omega) v ps.length _ hs
    (World.ownsRow.alloc hown.1 _) ⟨w.heap.size, 0, none⟩ 1 1 (tokC p) hx rfl ?_ ?_ (by unfold maxLen; omega) (by omega) (by simp; omega) ?_
  · intro j u hj
    have e : (⟨w.heap.size, 0, none⟩ : Addr).add j = ⟨w.heap.size, j, none⟩ := by
      unfold Addr.add; split
      · rename_i h0; subst h0; rfl
      · simp
    rw [e, World.cell?_alloc_at _ _ _ _ rfl]
    show ((tokC p).toArray)[j]? = some u
    rw [List.getElem?_toArray]; exact hj
  · intro u hu
    simp only [tokC, List.mem_cons, List.not_mem_nil, or_false] at hu
    rcases hu with rfl | rfl | rfl | rfl | rfl | rfl
    · rfl
    · rfl
    · rfl
    · exact hp1
    · rfl
    · rfl
  intro v' w' hown' hg _ hat
  have hsz : w.heap.size + 1 ≤ w'.heap.size := by have := hg.size; simpa using this
  have keep : ∀ d l, OwnR w B d l → Apart v d → OwnR w' B d l ∧ Apart v' d := by
    intro d m hd hap
    have hd' : (w.alloc (.cells #[.int .i64 p.1.kind, .int .i64 p.1.at_, .float .f64 p.1.num, p.2, .string p.1.name, .int .i32 p.1.char] 136)).ownsRow B 21 1 d m.length (m.map (Value.int .i32)) := World.ownsRow.alloc hd _
    refine ⟨World.ownsRow.kept hd' hg ?_, ?_⟩
    · rcases hap with h1 | h1 | h1
      · cases hdb : d.ownBlock with
        | none => exact .inl rfl
        | some k => right; rw [h1]; simp
      · exact .inl h1
      · exact .inr fun e => h1 e.symm
    · rcases hat with e | e
      · unfold Apart; rw [e]; exact hap
      · refine .inr (.inr ?_)
        rw [e]
        intro he
        have := (World.ownsRow.lt hd _ he.symm).2
        simp at this
        omega
  refine h v' w' ⟨?_, ?_⟩ ?_
  · rw [List.length_append, cellsT_snoc]
    exact hown'
  · intro q hq
    rcases List.mem_append.1 hq with hq | hq
    · exact keep _ _ (hown.2 q hq).1 (hown.2 q hq).2
    · obtain rfl : q = p := by simpa using hq
      exact keep _ _ hp2 hp3
  · intro w0 hb
    exact ((hb.alloc hB _).grown hg (by simp; omega) fun k hk => (World.ownsRow.lt hown.1 k hk).1)
end Go.Proofs.YtnhnaallalgefaaDoor
