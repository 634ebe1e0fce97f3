/- What is read out of memory stays so, as long as the blocks outside a hole stay: the word Keeps; squeeze.Squeeze's own blocks. Conditions: as each theorem says. -/
import Derived.Test.YtdddmehchfnppaaDoorVcJ
namespace Go.Proofs.YtdddmehchfnppaaDoor
open Go Go.RowKit Go.Proofs Fl

/-- R holds at every later world in which the blocks outside the hole H are as they are now -/
def Keeps (H : Nat → Prop) (w : World) (R : World → Prop) : Prop := ∀ w', w.heap.size ≤ w'.heap.size → (∀ b, b < w.heap.size → ¬ H b → w'.heap[b]? = w.heap[b]?) → R w'

theorem Keeps.now {H : Nat → Prop} {w : World} {R : World → Prop} (h : Keeps H w R) : R w := h w (Nat.le_refl _) fun _ _ _ => rfl
theorem Keeps.sub {H H' : Nat → Prop} {w : World} {R : World → Prop} (h : Keeps H w R) (hs : ∀ b, b < w.heap.size → H' b → H b) : Keeps H' w R :=
  fun w' hz hb => h w' hz fun b hl hn => hb b hl fun hh => hn (hs b hl hh)
theorem Keeps.imp {H : Nat → Prop} {w : World} {R R' : World → Prop} (h : Keeps H w R) (hi : ∀ w', R w' → R' w') : Keeps H w R' := fun w' hz hb => hi _ (h w' hz hb)
theorem Keeps.and {H : Nat → Prop} {w : World} {R R' : World → Prop} (h : Keeps H w R) (h' : Keeps H w R') : Keeps H w fun w' => R w' ∧ R' w' := fun w' hz hb => ⟨h w' hz hb, h' w' hz hb⟩
theorem Keeps.const {H : Nat → Prop} {w : World} {p : Prop} (h : p) : Keeps H w fun _ => p := fun _ _ _ => h
/-- a later world that agrees outside a greater hole -/
theorem Keeps.go {H : Nat → Prop} {w w1 : World} {R : World → Prop} (h : Keeps H w R) (H' : Nat → Prop) (hs : ∀ b, b < w.heap.size → H' b → H b) (hz : w.heap.size ≤ w1.heap.size) (hb : ∀ b, b < w.heap.size → ¬ H b → w1.heap[b]? = w.heap[b]?) : Keeps (fun b => H' b ∨ w.heap.size ≤ b) w1 R :=
  fun w' hz' hb' => h w' (Nat.le_trans hz hz') fun b hl hn => by
    rw [hb' b (Nat.lt_of_lt_of_le hl hz) ?_, hb b hl hn]
    rintro (e | e)
    · exact hn (hs b hl e)
    · omega
theorem Keeps.below {H : Nat → Prop} {w w1 : World} {R : World → Prop} (h : Keeps H w R) (hb : Below w.heap.size w w1) : Keeps (fun b => H b ∨ w.heap.size ≤ b) w1 R := h.go H (fun _ _ e => e) hb.size fun b hl _ => hb.block b hl
theorem Keeps.below' {H : Nat → Prop} {w w1 : World} {R : World → Prop} (h : Keeps H w R) (hb : Below w.heap.size w w1) (H' : Nat → Prop) (hs : ∀ b, b < w.heap.size → H' b → H b) : Keeps H' w1 R :=
  fun w' hz' hb' => h w' (Nat.le_trans hb.size hz') fun b hl hn => by rw [hb' b (Nat.lt_of_lt_of_le hl hb.size) (fun e => hn (hs b hl e)), hb.block b hl]
theorem Keeps.step {H : Nat → Prop} {w w1 : World} {R : World → Prop} (h : Keeps H w R) (hb : Below w.heap.size w w1) : Keeps H w1 R := h.below' hb H fun _ _ e => e
theorem size_setCell' (w : World) (a : Addr) (u : Value) : (w.setCell a u).heap.size = w.heap.size := by
  have h1 := ((Below.refl 0 w).setCell (Nat.zero_le a.block) u).size
  have h2 : (w.setCell a u).heap.size ≤ w.heap.size := by
    unfold World.setCell
    split <;> simp
  omega
theorem Keeps.set {H : Nat → Prop} {w : World} {R : World → Prop} (h : Keeps H w R) {a : Addr} (ha : H a.block) (u : Value) : Keeps H (w.setCell a u) R :=
  fun w' hz hb => h w' (by rw [size_setCell'] at hz; exact hz) fun b hl hn => by
    rw [hb b (by rw [size_setCell']; exact hl) hn, Below.heap_setCell _ _ _ _ (fun e => hn (by rw [e]; exact ha))]
theorem Keeps.set8 {H : Nat → Prop} {w : World} {R : World → Prop} (h : Keeps H w R) {G : Nat} (hG : H G) (a0 a1 a2 a3 a4 a5 a6 a7 : Value) : Keeps H (set8 w G a0 a1 a2 a3 a4 a5 a6 a7) R :=
  (((((((h.set hG _).set hG _).set hG _).set hG _).set hG _).set hG _).set hG _).set hG _
theorem size_set8 (w : World) (G : Nat) (a0 a1 a2 a3 a4 a5 a6 a7 : Value) : (set8 w G a0 a1 a2 a3 a4 a5 a6 a7).heap.size = w.heap.size := by
  unfold set8
  rw [size_setCell', size_setCell', size_setCell', size_setCell', size_setCell', size_setCell', size_setCell', size_setCell']
/-- a row that the call owns is read so, whatever becomes of the blocks below its own -/
theorem Own1.keeps {w : World} {B : Nat} {e : TypeId} {v : Value} {xs : List Value} (h : Own1 w B e v xs) : Keeps (fun b => b < B) w fun w' => Reads1 w' v xs := by
  intro w' hz hb
  rcases h.reads with h1 | ⟨b, o, n, c, rfl, hn, hc⟩
  · exact .inl h1
  · refine .inr ⟨b, o, n, c, rfl, hn, fun i hi => ?_⟩
    have hcell := hc i hi
    have hlt := cell_lt hcell
    have hB : B ≤ b := by
      rcases h.2 with ⟨h2, _⟩ | ⟨g, cap, cur, hv, hbg, _⟩
      · cases h2
      · injection hv with h3 _ _
        injection h3 with h4
        injection h4 with h5 _ _
        omega
    rw [World.cell?_of_block (w := w) (hb b hlt (by omega))]
    exact hcell
/-- a function's hole: its caller's, and the blocks that it has made so far -/
abbrev Hole (H : Nat → Prop) (w W : World) : Nat → Prop := fun b => H b ∨ (w.heap.size ≤ b ∧ b < W.heap.size)
theorem Keeps.arg {H : Nat → Prop} {w W : World} {R : World → Prop} (h : Keeps H w R) (hb : Below w.heap.size w W) : Keeps (Hole H w W) W R :=
  h.below' hb _ fun b hl e => by
    rcases e with e | ⟨e, _⟩
    · exact e
    · omega
theorem Hole.lt {H : Nat → Prop} {w W : World} (hH : ∀ b, H b → b < w.heap.size) (hb : Below w.heap.size w W) : ∀ b, Hole H w W b → b < W.heap.size := by
  rintro b (e | ⟨_, e⟩)
  · exact Nat.lt_of_lt_of_le (hH b e) hb.size
  · exact e
theorem Own1.keepsH {w : World} {B : Nat} {e : TypeId} {v : Value} {xs : List Value} (h : Own1 w B e v xs) {H : Nat → Prop} (hH : ∀ b, H b → b < B) : Keeps H w fun w' => Reads1 w' v xs := h.keeps.sub fun b _ e => hH b e
end Go.Proofs.YtdddmehchfnppaaDoor
