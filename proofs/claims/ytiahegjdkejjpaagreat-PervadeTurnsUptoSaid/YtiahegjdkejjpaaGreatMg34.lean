/- Merged texts. The walk of pervade.boxes over a contract of Two at the parts. Conditions: at most 1000000 elements. pervade.Two of any two good arrays tells twoE. Conditions: no list longer than 1000000. The walks of the reference's Num and Nums, and of value.Box. Conditions: as each theorem says. -/
import Derived.Test.YtiahegjdkejjpaaGreatMg32
import Derived.Test.YtiahegjdkejjpaaGreatMg33
import Derived.Test.YtiahegjdkejjpaaGreatMg16
import Derived.Deep.AppendLies
import Derived.Deep.RegionLaw
namespace Go.Proofs.YtiahegjdkejjpaaGreat
open Go Go.RowKit Go.Proofs Fl

theorem A3.more {w W W' : World} {h1 h2 : Sl} {p q : V8} (g : A3 w W h1 p h2 q) (hb : Below (w.heap.size + 3) W W') : A3 w W' h1 p h2 q :=
  ⟨g.one.of fun j => hb.cell (p := ⟨w.heap.size, j, none⟩) (by show w.heap.size < _; omega), g.two.of fun j => hb.cell (p := ⟨w.heap.size + 1, j, none⟩) (by show w.heap.size + 1 < _; omega), by rw [hb.block _ (by omega)]; exact g.res, g.bel.trans (hb.mono (by omega))⟩
/-- the memory of a round of boxes: the arguments' boxes, and what was there when it began -/
structure BxS (w wr : World) (h1 : Sl) (p : V8) (h2 : Sl) (q : V8) (W : World) : Prop where
  a3 : A3 w W h1 p h2 q
  bel : Below wr.heap.size wr W
  lo : w.heap.size + 3 ≤ wr.heap.size
theorem BxS.step {w wr W W' : World} {h1 h2 : Sl} {p q : V8} (g : BxS w wr h1 p h2 q W) (hb : Below W.heap.size W W') : BxS w wr h1 p h2 q W' := ⟨g.a3.step hb, bel_both g.bel hb, g.lo⟩
theorem BxS.put {w wr W : World} {h1 h2 : Sl} {p q : V8} (g : BxS w wr h1 p h2 q W) {b j : Nat} (hb : wr.heap.size ≤ b) (u : Value) : BxS w wr h1 p h2 q (W.setCell ⟨b, j, none⟩ u) := ⟨g.a3.more ((Below.refl _ W).setCell (by show _ ≤ b; have := g.lo; omega) u), g.bel.setCell (by show _ ≤ b; exact hb) u, g.lo⟩
theorem BxS.dr {w wr W : World} {h1 h2 : Sl} {p q : V8} (g : BxS w wr h1 p h2 q W) : BxS w wr h1 p h2 q W.drew := g.step (Below.refl _ W).drew
theorem BxS.al {w wr W : World} {h1 h2 : Sl} {p q : V8} (g : BxS w wr h1 p h2 q W) (o : Obj) : BxS w wr h1 p h2 q (W.alloc o) := g.step (bel1 W o)
theorem BxS.self {w wr W : World} {h1 h2 : Sl} {p q : V8} (g : BxS w wr h1 p h2 q W) : BxS w wr h1 p h2 q W := g
theorem bxs_s {w wr W : World} {h1 h2 : Sl} {p q : V8} (g : BxS w wr h1 p h2 q W) : ((W.cell? ⟨w.heap.size, 0, none⟩ = some (.slice h1.1 h1.2.1 h1.2.2) ∧ W.cell? ⟨w.heap.size, 1, none⟩ = some (.int .i64 p.k) ∧ W.cell? ⟨w.heap.size, 2, none⟩ = some (.slice p.b.1 p.b.2.1 p.b.2.2) ∧ W.cell? ⟨w.heap.size, 3, none⟩ = some (.int .i64 p.bn) ∧ W.cell? ⟨w.heap.size, 4, none⟩ = some (.slice p.s.1 p.s.2.1 p.s.2.2) ∧ W.cell? ⟨w.heap.size, 5, none⟩ = some (.slice p.i.1 p.i.2.1 p.i.2.2) ∧ W.cell? ⟨w.heap.size, 6, none⟩ = some (.slice p.f.1 p.f.2.1 p.f.2.2) ∧ W.cell? ⟨w.heap.size, 7, none⟩ = some (.slice p.c.1 p.c.2.1 p.c.2.2) ∧ W.cell? ⟨w.heap.size, 8, none⟩ = some (.slice p.x.1 p.x.2.1 p.x.2.2)) ∧ (W.cell? ⟨w.heap.size + 1, 0, none⟩ = some (.slice h2.1 h2.2.1 h2.2.2) ∧ W.cell? ⟨w.heap.size + 1, 1, none⟩ = some (.int .i64 q.k) ∧ W.cell? ⟨w.heap.size + 1, 2, none⟩ = some (.slice q.b.1 q.b.2.1 q.b.2.2) ∧ W.cell? ⟨w.heap.size + 1, 3, none⟩ = some (.int .i64 q.bn) ∧ W.cell? ⟨w.heap.size + 1, 4, none⟩ = some (.slice q.s.1 q.s.2.1 q.s.2.2) ∧ W.cell? ⟨w.heap.size + 1, 5, none⟩ = some (.slice q.i.1 q.i.2.1 q.i.2.2) ∧ W.cell? ⟨w.heap.size + 1, 6, none⟩ = some (.slice q.f.1 q.f.2.1 q.f.2.2) ∧ W.cell? ⟨w.heap.size + 1, 7, none⟩ = some (.slice q.c.1 q.c.2.1 q.c.2.2) ∧ W.cell? ⟨w.heap.size + 1, 8, none⟩ = some (.slice q.x.1 q.x.2.1 q.x.2.2))) ∧ BxS w wr h1 p h2 q W := ⟨⟨g.a3.one.c, g.a3.two.c⟩, g⟩
/-- an array that was told, still there -/
def AvAt (H : Nat → Prop) (a : PA) (h : Sl) (p : V8) (W : World) : Prop := AV H W a h p
theorem AvAt.step {H : Nat → Prop} {a : PA} {h : Sl} {p : V8} {W W' : World} (g : AvAt H a h p W) (hb : Below W.heap.size W W') : AvAt H a h p W' := AV.step g hb
theorem AvAt.dr {H : Nat → Prop} {a : PA} {h : Sl} {p : V8} {W : World} (g : AvAt H a h p W) : AvAt H a h p W.drew := g.step (Below.refl _ W).drew
theorem AvAt.al {H : Nat → Prop} {a : PA} {h : Sl} {p : V8} {W : World} (g : AvAt H a h p W) (o : Obj) : AvAt H a h p (W.alloc o) := g.step (bel1 W o)
theorem AvAt.self {H : Nat → Prop} {a : PA} {h : Sl} {p : V8} {W : World} (g : AvAt H a h p W) : AvAt H a h p W := g
/-- an array, where there is no trouble -/
def AvIf (H : Nat → Prop) (r : Int × PA) (h : Sl) (u : V8) (W : World) : Prop := r.1 = 0 → AV H W r.2 h u
/-- what Two tells, in one form -/
def TwU (H : Nat → Prop) (w : World) (r : Int × PA) (e : Ending) (w' : World) : Prop := ∃ (h : Sl) (u : V8), e = .returned (.tuple #[arrV h u, .int .i64 r.1]) ∧ AvIf H r h u w' ∧ Below w.heap.size w w'
theorem TwR.u {H : Nat → Prop} {w w' : World} {r : Int × PA} {e : Ending} (g : TwR H w r e w') : TwU H w r e w' := by
  rcases g with ⟨h0, h, u, rfl, ha, hb⟩ | ⟨h0, rfl, hb⟩
  · exact ⟨h, u, by rw [h0], fun _ => ha, hb⟩
  · exact ⟨nilS, zeroP, rfl, fun e => absurd e h0, hb⟩
/-- a new variable that holds nothing yet -/
def ZB (Z : Nat) (W : World) : Prop := W.heap[Z]? = some zeroO
theorem ZB.new (W : World) : ZB W.heap.size (W.alloc zeroO) := heap_alloc_new W _
theorem ZB.dr {Z : Nat} {W : World} (g : ZB Z W) : ZB Z W.drew := g
theorem ZB.step {Z : Nat} {W W' : World} (g : ZB Z W) (hb : Below W.heap.size W W') : ZB Z W' := by
  unfold ZB at g ⊢
  rw [hb.block _ (lt_blk g)]
  exact g
/-- behind the region: a new variable holds what was told -/
def BxMid (K : Nat → Prop) (w wr : World) (h1 : Sl) (p : V8) (h2 : Sl) (q : V8) (r : Int × PA) (v e : Value) (wx : World) : Prop :=
  ∃ (V : Nat) (h : Sl) (u : V8), v = .pointer (some ⟨V, 0, none⟩) ∧ e = .int .i64 r.1 ∧ wr.heap.size ≤ V ∧ wx.heap[V]? = some (arrO h u) ∧ AvIf (fun b => K b ∨ b = V) r h u wx ∧ BxS w wr h1 p h2 q wx
theorem bxMid_new {K : Nat → Prop} {w wr W5 w5 : World} {h1 h2 : Sl} {p q : V8} {r : Int × PA} {h : Sl} {u : V8} (hav : AvIf (Hole K wr W5) r h u w5) (hst : BxS w wr h1 p h2 q w5) :
    BxMid K w wr h1 p h2 q r (.pointer (some ⟨w5.heap.size, 0, none⟩)) (.int .i64 r.1) (w5.alloc (arrO h u)) :=
  ⟨w5.heap.size, h, u, rfl, rfl, hst.bel.size, heap_alloc_new w5 _, fun h0 => (AV.sub (fun b hb e => by
    rcases e with e | e
    · exact .inl e
    · omega) (hav h0)).step (bel1 w5 _), hst.al _⟩
theorem bxMid_old {K : Nat → Prop} {w wr W5 w5 : World} {h1 h2 : Sl} {p q : V8} {r : Int × PA} {h : Sl} {u : V8} {Z : Nat} (hav : AvIf (Hole K wr W5) r h u w5) (hst : BxS w wr h1 p h2 q w5) (hz : ZB Z w5) (h5 : ZB Z W5) (hZ : wr.heap.size ≤ Z) :
    BxMid K w wr h1 p h2 q r (.pointer (some ⟨Z, 0, none⟩)) (.int .i64 r.1) (set9 w5 Z (sv h) (.int .i64 u.k) (sv u.b) (.int .i64 u.bn) (sv u.s) (sv u.i) (sv u.f) (sv u.c) (sv u.x)) := by
  have hzw := lt_blk h5
  have hwr := hst.lo
  refine ⟨Z, h, u, rfl, rfl, hZ, set9_block hz _ _ _ _ _ _ _ _ _, fun h0 => AV.lat (Lat.set9 (H := fun b => K b ∨ b = Z) (G := Z) (.inr rfl) _ _ _ _ _ _ _ _ _) (AV.sub (fun b hb e => ?_) (hav h0)), ⟨hst.a3.more (below_set9 (Below.refl _ w5) (by omega) _ _ _ _ _ _ _ _ _), below_set9 hst.bel hZ _ _ _ _ _ _ _ _ _, hwr⟩⟩
  rcases e with e | e
  · exact .inl e
  · exact .inr ⟨by omega, by omega⟩
/-- the memory of the loop of boxes: the row, and what its first places hold -/
structure BxI (H : Nat → Prop) (w : World) (h1 : Sl) (p : V8) (h2 : Sl) (q : V8) (R : Nat → Int × PA) (n c G : Nat) (hh : Nat → Sl) (pp : Nat → V8) (W : World) : Prop where
  a3 : A3 w W h1 p h2 q
  row : ARow W G n hh pp
  ok : ∀ j, j < c → (R j).1 = 0 ∧ AV (fun b => H b ∨ b = w.heap.size + 2 ∨ b = G) W (R j).2 (hh j) (pp j)
theorem BxI.step {H : Nat → Prop} {w W W' : World} {h1 h2 : Sl} {p q : V8} {R : Nat → Int × PA} {n c G : Nat} {hh : Nat → Sl} {pp : Nat → V8} (g : BxI H w h1 p h2 q R n c G hh pp W) (hb : Below W.heap.size W W') : BxI H w h1 p h2 q R n c G hh pp W' :=
  ⟨g.a3.step hb, g.row.below hb, fun j hj => ⟨(g.ok j hj).1, (g.ok j hj).2.step hb⟩⟩
/-- a place of the row written -/
theorem BxI.put {H : Nat → Prop} {w W : World} {h1 h2 : Sl} {p q : V8} {R : Nat → Int × PA} {n c G : Nat} {hh : Nat → Sl} {pp : Nat → V8} (g : BxI H w h1 p h2 q R n c G hh pp W) (hG : w.heap.size + 3 ≤ G) (hc : c < n) {h : Sl} {u : V8} (h0 : (R c).1 = 0) (hav : AV (fun b => H b ∨ b = w.heap.size + 2 ∨ b = G) W (R c).2 h u) :
    BxI H w h1 p h2 q R n (c + 1) G (fun j => if j = c then h else hh j) (fun j => if j = c then u else pp j) (set9o W G (c * 9) (sv h) (.int .i64 u.k) (sv u.b) (.int .i64 u.bn) (sv u.s) (sv u.i) (sv u.f) (sv u.c) (sv u.x)) := by
  have hB : Below (w.heap.size + 3) W (set9o W G (c * 9) (sv h) (.int .i64 u.k) (sv u.b) (.int .i64 u.bn) (sv u.s) (sv u.i) (sv u.f) (sv u.c) (sv u.x)) := below_set9o (Below.refl _ W) hG _ _ _ _ _ _ _ _ _ _
  have hL : Lat (fun b => H b ∨ b = w.heap.size + 2 ∨ b = G) W (set9o W G (c * 9) (sv h) (.int .i64 u.k) (sv u.b) (.int .i64 u.bn) (sv u.s) (sv u.i) (sv u.f) (sv u.c) (sv u.x)) :=
    ⟨by rw [set9o_size]; exact Nat.le_refl _, fun b _ hn => set9o_other (fun e => hn (.inr (.inr e))) _ _ _ _ _ _ _ _ _⟩
  refine ⟨g.a3.more hB, g.row.put hc h u, fun j hj => ?_⟩
  by_cases e : j = c
  · subst e
    rw [if_pos rfl, if_pos rfl]
    exact ⟨h0, AV.lat hL hav⟩
  · rw [if_neg e, if_neg e]
    have := g.ok j (by omega)
    exact ⟨this.1, AV.lat hL this.2⟩
/-- what box by box comes to -/
def bxE (n : Nat) (R : Nat → Int × PA) (sh : List Nat) : Int × PA := if (seqE ((List.range n).map R)).1 ≠ 0 then ((seqE ((List.range n).map R)).1, default) else (0, .boxes sh (seqE ((List.range n).map R)).2)
theorem bxE_ok {n : Nat} {R : Nat → Int × PA} (sh : List Nat) (h : ∀ j, j < n → (R j).1 = 0) : bxE n R sh = (0, .boxes sh ((List.range n).map fun j => (R j).2)) := by
  have e := seqE_ok (rs := (List.range n).map R) (fun i hi => by simp at hi ⊢; exact h i hi)
  unfold bxE
  rw [e]
  simp
theorem bxE_bad {n c : Nat} {R : Nat → Int × PA} (sh : List Nat) (hc : c < n) (h : ∀ j, j < c → (R j).1 = 0) (hb : (R c).1 ≠ 0) : (bxE n R sh).1 = (R c).1 := by
  have e := seqE_bad (rs := (List.range n).map R) (k := c) (by simpa using hc) (fun i hi => by simp; exact h i hi) (by simpa using hb)
  simp only [List.getElem_map, List.getElem_range] at e
  unfold bxE
  rw [e, if_pos (by simpa using hb)]

set_option maxRecDepth 100000 in
set_option maxHeartbeats 4000000 in
theorem boxes24_any {H Ha Hb Hs : Nat → Prop} (f : Int) (R : Nat → Int × PA) (n : Nat) {a b : PA} {h1 h2 : Sl} {p q : V8} (s : Sl) (sh : List Nat) (w : World) (hH : ∀ b, H b → b < w.heap.size) (hHa : ∀ b, Ha b → b < w.heap.size) (hHb : ∀ b, Hb b → b < w.heap.size)
    (ga : AV Ha w a h1 p) (gb : AV Hb w b h2 q) (gs : ShV Hs w s sh) (hsh : OkSh sh n) (hn : n ≤ 1000000) (hla : a.len ≤ 1000000) (hlb : b.len ≤ 1000000) (hix : ∀ i, i < n → ixP a.len i < a.len ∧ ixP b.len i < b.len)
    (hIH : ∀ i, i < n → ∀ (H' : Nat → Prop) (W : World) (u1 u2 : Sl) (v1 v2 : V8), (∀ b, H' b → b < W.heap.size) → AV Ha W (partA a i) u1 v1 → AV Hb W (partA b i) u2 v2 → w.heap.size ≤ W.heap.size → Calls Tryz.prog 9 #[.int .i64 f, arrV u1 v1, arrV u2 v2] W (TwR H' W (R i))) :
    Calls Tryz.prog 22 #[.int .i64 f, arrV h1 p, arrV h2 q, sv s] w (TwR H w (bxE n R sh)) := by
  have HPR := Lib.hid (fun W (hb : Below w.heap.size w W) => product_any (sv s) sh 1048576 W (Keeps.lat gs (Lat.below hb)).now (by have := hsh.1; omega))
  rw [prodE_ok hsh (most := 1048576) (by omega)] at HPR
  have HPA := Lib.hid (fun i (hi : i < n) W (hs : A3 w W h1 p h2 q) => part_any W (AV.step ga hs.bel) (fun b e => by have := hHa b e; have := hs.sz; omega) i (by omega) (hix i hi).1 hla)
  have HPB := Lib.hid (fun i (hi : i < n) W (hs : A3 w W h1 p h2 q) => part_any W (AV.step gb hs.bel) (fun b e => by have := hHb b e; have := hs.sz; omega) i (by omega) (hix i hi).2 hlb)
  unfold AaR at HPA HPB
  have HII := Lib.hid (fun i (hi : i < n) (H' : Nat → Prop) (W : World) (hH' : ∀ b, H' b → b < W.heap.size) (u1 u2 : Sl) (v1 v2 : V8) (hs : A3 w W h1 p h2 q) (g1 : AvAt Ha (partA a i) u1 v1 W) (g2 : AvAt Hb (partA b i) u2 v2 W) => (hIH i hi H' W u1 u2 v1 v2 hH' g1 g2 hs.bel.size).mono fun _ _ t => TwR.u t)
  unfold TwU at HII
  have HGS := Lib.hid gs
  have HH := Lib.hid hH
  have HSL : Hid (sh.length ≤ 1048576) := by have := hsh.1; unfold Hid; omega
  have HS0 := Lib.hid (A3.new w h1 h2 p q)
  have HR := Lib.hid (fun h => bxE_ok (R := R) (n := n) sh h)
  have HRB := Lib.hid (fun c (hc : c < n) h hb => bxE_bad (R := R) (n := n) (c := c) sh hc h hb)
  have hmk := run_make_arrs n (by omega)
  generalize bxE n R sh = r at HR HRB ⊢
  clear ga gb gs hsh hla hlb hix hIH hH hHa hHb
  go_enter Tryz.func22, Tryz.ntmps22
  go_wp2_with fail
  refine (HPR.out _ HS0.out.bel).mono ?_
  rintro e w1 ⟨rfl, hw1⟩
  rw [hw1] at HS0
  clear hw1 HPR
  go_wp2
  have HB1 := Lib.hid (bel1 w1 (.cells (madeCells zeroL (n * 9)) 40))
  have HG : Hid (w.heap.size + 3 ≤ w1.heap.size) := HS0.out.sz
  have HI0 : Hid (BxI H w h1 p h2 q R n 0 w1.heap.size (fun _ => nilS) (fun _ => zeroP) (w1.alloc (.cells (madeCells zeroL (n * 9)) 40))) := ⟨HS0.out.step HB1.out, ARow.made w1 n, fun j hj => absurd hj (Nat.not_lt_zero _)⟩
  generalize w1.alloc (.cells (madeCells zeroL (n * 9)) 40) = w2 at HI0 HB1 ⊢
  generalize w1.heap.size = G at HI0 HG ⊢
  clear HS0 HB1
  go_loopw [29] (fun iv wr => ∃ (c : Nat) (hh : Nat → Sl) (pp : Nat → V8), c ≤ n ∧ iv = .int .i64 (c : Int) ∧ BxI H w h1 p h2 q R n c G hh pp wr) (fun iv _ => n - (intOf iv).toNat)
  case atStart => exact ⟨0, _, _, Nat.zero_le _, rfl, HI0.out⟩
  case round =>
    obtain ⟨c, hh, pp, hc, rfl, hti⟩ := hrel
    have HTI := Lib.hid hti
    clear hti HI0
    by_cases hlt : c < n
    · have hlt2 : (c : Int) < (n : Int) := by omega
      have HA := Lib.hid (fun W (hs : BxS w wr h1 p h2 q W) => HPA.out c hlt W hs.a3)
      have HBB := Lib.hid (fun W (hs : BxS w wr h1 p h2 q W) => HPB.out c hlt W hs.a3)
      have hwr : w.heap.size + 3 ≤ wr.heap.size := HTI.out.a3.sz
      have HST0 : Hid (BxS w wr h1 p h2 q wr) := ⟨HTI.out.a3, Below.refl _ _, hwr⟩
      have HKK : Hid (∀ b, (H b ∨ b = w.heap.size + 2 ∨ b = G) → b < wr.heap.size) := fun b e => by
        have h9 := HTI.out.row.lt
        rcases e with e | e | e
        · have := HH.out b e; omega
        · omega
        · omega
      have HTW := Lib.hid (fun W (u1 u2 : Sl) (v1 v2 : V8) (hs : BxS w wr h1 p h2 q W) => HII.out c hlt (Hole (fun b => H b ∨ b = w.heap.size + 2 ∨ b = G) wr W) W (Hole.lt HKK.out hs.bel) u1 u2 v1 v2 hs.a3)
      obtain ⟨rc, hrc⟩ : ∃ rc, rc = R c := ⟨_, rfl⟩
      rw [← hrc] at HTW
      obtain ⟨pa, hpa⟩ : ∃ pa, pa = partA a c := ⟨_, rfl⟩
      obtain ⟨pb, hpb⟩ : ∃ pb, pb = partA b c := ⟨_, rfl⟩
      rw [← hpa] at HA HTW
      rw [← hpb] at HBB HTW
      have HRCE := Lib.hid hrc
      clear hrc hpa hpb
      go_upto_region 8 with fail
      go_cut [29, 14, 15] from 29 to 51 (fun i v e wx => i = .int .i64 (c : Int) ∧ BxMid (fun b => H b ∨ b = w.heap.size + 2 ∨ b = G) w wr h1 p h2 q rc v e wx)
      case first =>
        have hs0 := HST0.out.dr
        have hs00 := HST0.out
        go_region_held3 (fun W => ((W.cell? ⟨w.heap.size, 0, none⟩ = some (.slice h1.1 h1.2.1 h1.2.2) ∧ W.cell? ⟨w.heap.size, 1, none⟩ = some (.int .i64 p.k) ∧ W.cell? ⟨w.heap.size, 2, none⟩ = some (.slice p.b.1 p.b.2.1 p.b.2.2) ∧ W.cell? ⟨w.heap.size, 3, none⟩ = some (.int .i64 p.bn) ∧ W.cell? ⟨w.heap.size, 4, none⟩ = some (.slice p.s.1 p.s.2.1 p.s.2.2) ∧ W.cell? ⟨w.heap.size, 5, none⟩ = some (.slice p.i.1 p.i.2.1 p.i.2.2) ∧ W.cell? ⟨w.heap.size, 6, none⟩ = some (.slice p.f.1 p.f.2.1 p.f.2.2) ∧ W.cell? ⟨w.heap.size, 7, none⟩ = some (.slice p.c.1 p.c.2.1 p.c.2.2) ∧ W.cell? ⟨w.heap.size, 8, none⟩ = some (.slice p.x.1 p.x.2.1 p.x.2.2)) ∧ (W.cell? ⟨w.heap.size + 1, 0, none⟩ = some (.slice h2.1 h2.2.1 h2.2.2) ∧ W.cell? ⟨w.heap.size + 1, 1, none⟩ = some (.int .i64 q.k) ∧ W.cell? ⟨w.heap.size + 1, 2, none⟩ = some (.slice q.b.1 q.b.2.1 q.b.2.2) ∧ W.cell? ⟨w.heap.size + 1, 3, none⟩ = some (.int .i64 q.bn) ∧ W.cell? ⟨w.heap.size + 1, 4, none⟩ = some (.slice q.s.1 q.s.2.1 q.s.2.2) ∧ W.cell? ⟨w.heap.size + 1, 5, none⟩ = some (.slice q.i.1 q.i.2.1 q.i.2.2) ∧ W.cell? ⟨w.heap.size + 1, 6, none⟩ = some (.slice q.f.1 q.f.2.1 q.f.2.2) ∧ W.cell? ⟨w.heap.size + 1, 7, none⟩ = some (.slice q.c.1 q.c.2.1 q.c.2.2) ∧ W.cell? ⟨w.heap.size + 1, 8, none⟩ = some (.slice q.x.1 q.x.2.1 q.x.2.2))) ∧ BxS w wr h1 p h2 q W)
          (first | (with_reducible assumption) | (with_reducible (refine bxs_s ?_); repeat (first | (with_reducible assumption) | (with_reducible refine BxS.dr ?_) | (with_reducible refine BxS.put ?_ (by first | assumption | omega | (simp; omega)) _) | (with_reducible refine BxS.al ?_ _))))
          (first
            | (go_at_call 44; (with_reducible refine (HA.out _ ?_).mono ?_); exact BxS.self (by repeat (first | (with_reducible assumption) | (with_reducible refine BxS.dr ?_) | (with_reducible refine BxS.al ?_ _))); rintro e w1 ⟨ha1, pa1, rfl, hav1, hb1⟩; have hst1 : BxS w wr h1 p h2 q w1 := BxS.step (by repeat (first | (with_reducible assumption) | (with_reducible refine BxS.dr ?_) | (with_reducible refine BxS.al ?_ _))) hb1; have hat1 : AvAt Ha pa ha1 pa1 w1 := hav1; obtain ⟨hc1, hf1⟩ := bcell2 hb1; have hz1 := hb1.size; have hs1z := hst1.bel.size; (first | (have hsq1 : wr.heap.size < w1.heap.size := Nat.lt_of_lt_of_le (lt_al _ _) hz1) | (have hsq1 : wr.heap.size < w1.heap.size := Nat.lt_of_lt_of_le (lt_dr _ _) hz1) | skip); have HB1 := Lib.hid hb1; clear hb1 hav1)
            | (go_at_call 44; (with_reducible refine (HBB.out _ ?_).mono ?_); exact BxS.self (by repeat (first | (with_reducible assumption) | (with_reducible refine BxS.dr ?_) | (with_reducible refine BxS.al ?_ _))); rintro e w2 ⟨ha2, pa2, rfl, hav2, hb2⟩; have hst2 : BxS w wr h1 p h2 q w2 := BxS.step (by repeat (first | (with_reducible assumption) | (with_reducible refine BxS.dr ?_) | (with_reducible refine BxS.al ?_ _))) hb2; have hat2 : AvAt Hb pb ha2 pa2 w2 := hav2; have hat1' : AvAt Ha pa ha1 pa1 w2 := AvAt.step (by repeat (first | (with_reducible assumption) | (with_reducible refine AvAt.dr ?_) | (with_reducible refine AvAt.al ?_ _))) hb2; obtain ⟨hc2, hf2⟩ := bcell2 hb2; have hz2 := hb2.size; have hs2z := hst2.bel.size; (first | (have hsq2 : w1.heap.size < w2.heap.size := Nat.lt_of_lt_of_le (lt_al _ _) hz2) | (have hsq2 : w1.heap.size < w2.heap.size := Nat.lt_of_lt_of_le (lt_dr _ _) hz2) | (have hsq2 : w1.heap.size ≤ w2.heap.size := hz2) | skip); (first | (have hsr2 : wr.heap.size < w2.heap.size := Nat.lt_of_lt_of_le hsq1 (Nat.le_of_lt hsq2)) | (have hsr2 : wr.heap.size < w2.heap.size := Nat.lt_of_lt_of_le hsq1 hsq2) | skip); have HB2 := Lib.hid hb2; clear hb2 hav2)
            | (go_at_call 9; (with_reducible refine (HTW.out _ _ _ _ _ ?_ ?_ ?_).mono ?_); exact BxS.self (by repeat (first | (with_reducible assumption) | (with_reducible refine BxS.dr ?_) | (with_reducible refine BxS.al ?_ _))); exact AvAt.self (by repeat (first | (with_reducible assumption) | (with_reducible refine AvAt.dr ?_) | (with_reducible refine AvAt.al ?_ _))); exact AvAt.self (by repeat (first | (with_reducible assumption) | (with_reducible refine AvAt.dr ?_) | (with_reducible refine AvAt.al ?_ _))); rintro e w5 ⟨h5, u5, rfl, hav5, hb5⟩; have hst5 : BxS w wr h1 p h2 q w5 := BxS.step (by repeat (first | (with_reducible assumption) | (with_reducible refine BxS.dr ?_) | (with_reducible refine BxS.al ?_ _))) hb5; obtain ⟨hc5, hf5⟩ := bcell2 hb5; have hz5 := hb5.size; have hs5z := hst5.bel.size; (first | (have hsq5 : w2.heap.size < w5.heap.size := Nat.lt_of_lt_of_le (lt_al _ _) hz5) | (have hsq5 : w2.heap.size < w5.heap.size := Nat.lt_of_lt_of_le (lt_dr _ _) hz5) | (have hsq5 : w2.heap.size ≤ w5.heap.size := hz5) | skip); (first | (have hsr5 : wr.heap.size < w5.heap.size := Nat.lt_of_lt_of_le hsr2 hsq5) | skip); (first | (have hsr6 : w1.heap.size < w5.heap.size := Nat.lt_of_lt_of_le hsq2 hsq5) | skip); have HB5 := Lib.hid hb5; have HAV5 := Lib.hid hav5; clear hb5 hav5))
        all_goals
          go_wp2
          go_meet
          first
            | (with_reducible refine ⟨rfl, bxMid_new HAV5.out hst5⟩)
            | (with_reducible refine ⟨rfl, bxMid_old HAV5.out hst5 (ZB.step ?_ HB5.out) ?_ ?_⟩; all_goals (first | (with_reducible exact Nat.le_refl _) | exact hst1.bel.size | exact hst2.bel.size | (repeat (first | (with_reducible exact ZB.new _) | (with_reducible refine ZB.dr ?_) | (with_reducible refine ZB.step ?_ HB2.out) | (with_reducible refine ZB.step ?_ HB1.out)))))
      case rest =>
        obtain ⟨rfl, V, h5, u5, rfl, rfl, hVz, hVb, hav, hst⟩ := hcut
        have HTI2 := Lib.hid (HTI.out.step hst.bel)
        have HAV := Lib.hid hav
        have HVB := Lib.hid hVb
        have hVG : w.heap.size + 3 ≤ V := by omega
        clear hst hav HA HBB HTW HST0 HKK HPA HPB HII HTI hVb
        obtain ⟨w4, hw4⟩ : ∃ w4, w4 = wc := ⟨_, rfl⟩
        subst hw4
        by_cases h0 : rc.1 = 0
        · have ne : (rc.1 != 0) = false := by simpa using h0
          have hR0 : (R c).1 = 0 := by rw [← HRCE.out]; exact h0
          have HP := Lib.hid (HTI2.out.put HG.out hlt hR0 (h := h5) (u := u5) (by
            rw [← HRCE.out]
            exact AV.sub (fun b _ e => .inl e) (HAV.out h0)))
          obtain ⟨⟨y0, y1, y2, y3, y4, y5, y6, y7, y8⟩, yz⟩ := at9_of HVB.out
          obtain ⟨⟨c0, c1, c2, c3, c4, c5, c6, c7, c8⟩, cz⟩ := HTI2.out.row.at_ c hlt
          clear h0 hR0 HAV HRB
          go_wp2
          go_roundw
          case rel => exact ⟨c + 1, _, _, by omega, by go_num, HP.out⟩
          case measure => simp [intOf]; omega
        · have ne : (rc.1 != 0) = true := by simpa using h0
          have HE : Hid (r.1 = rc.1) := by
            unfold Hid
            rw [HRCE.out]
            exact HRB.out c hlt (fun j hj => (HTI2.out.ok j hj).1) (by rw [← HRCE.out]; exact h0)
          have HN := Lib.hid h0
          clear h0 HRB
          obtain ⟨⟨y0, y1, y2, y3, y4, y5, y6, y7, y8⟩, yz⟩ := zero_block HTI2.out.a3.res
          go_wp2
          refine bodyPost_ret (v := .tuple #[arrV nilS zeroP, .int .i64 rc.1]) ?_ rfl (twR_err HE.out HN.out (below_set9 HTI2.out.a3.bel (Nat.le_add_right _ 2) _ _ _ _ _ _ _ _ _))
          exact ret_arr2 (fn := Tryz.f22) (p := 8) (u := 9) rfl _ _ (w.heap.size + 2) (by rfl) (set9_block HTI2.out.a3.res _ _ _ _ _ _ _ _ _)
    · obtain rfl : c = n := by omega
      have hge : ¬ (c : Int) < (c : Int) := by omega
      have HCL := Lib.hid (fun W (hb : Below wr.heap.size wr W) => clSh_now (fun b => H b ∨ b = w.heap.size + 2) (w := W) (h := s) (s := sh) ((HGS.out.lat (Lat.below (bel_both HTI.out.a3.bel hb))).now) HSL.out (fun b e => by
        have h9 := HTI.out.a3.sz
        have h10 := hb.size
        rcases e with e | e
        · have := HH.out b e; omega
        · omega))
      have HASL : Hid (ASl (fun b => H b ∨ b = w.heap.size + 2) wr (some ⟨G, 0, none⟩, c, c) ((List.range c).map fun j => (R j).2)) := by
        refine ARow.asl HTI.out.row (fun e => ?_) _ (by simp) (fun i hi => ?_) c
        · rcases e with e | e
          · have := HH.out _ e; have := HG.out; omega
          · have := HG.out; omega
        · have hi2 : i < c := by simpa using hi
          simp only [List.getElem_map, List.getElem_range]
          exact AV.sub (fun b _ e => by
            rcases e with e | e
            · exact .inl e
            · exact .inr (.inl e)) (HTI.out.ok i hi2).2
      have HRR := Lib.hid (HR.out fun j hj => (HTI.out.ok j hj).1)
      have hcl := HCL.out _ (Below.refl _ wr)
      clear HPA HPB HII HR HRB
      go_wp2_with fail
      refine hcl.mono ?_
      rintro e w5 ⟨A5, n5, c5, rfl, hsv, hb5⟩
      have HSV := Lib.hid hsv
      have HB5 := Lib.hid hb5
      have HA5 := Lib.hid (HTI.out.a3.step hb5)
      have HBX := Lib.hid (boxes_any (H := fun b => H b ∨ b = w.heap.size + 2) (HASL.out.step hb5) (by simp; omega) (fun b e => by
        have h9 := HA5.out.sz
        rcases e with e | e
        · have := HH.out b e; omega
        · omega))
      unfold BxR at HBX
      clear hsv hb5 hcl HCL
      go_wp2_with fail
      refine HBX.out.mono ?_
      rintro e w6 ⟨x6, rfl, hx6, hb6⟩
      have HA6 := Lib.hid (HA5.out.step hb6)
      obtain ⟨xA, xn, xc⟩ := x6
      have HAV : Hid (AV H (set9 w6 (w.heap.size + 2) (sv (A5, n5, c5)) (.int .i64 6) (sv nilS) (.int .i64 0) (sv nilS) (sv nilS) (sv nilS) (sv nilS) (sv (xA, xn, xc))) (.boxes sh ((List.range c).map fun j => (R j).2)) (A5, n5, c5) (boxesP (xA, xn, xc))) :=
        AV.sub (fun b _ e => .inl e) (AV.lat (Lat.set9 (G := w.heap.size + 2) (.inr rfl) _ _ _ _ _ _ _ _ _) (ASl.av hx6 (HSV.out.lat (Lat.below hb6))))
      clear hx6 hb6
      obtain ⟨⟨y0, y1, y2, y3, y4, y5, y6, y7, y8⟩, yz⟩ := zero_block HA6.out.res
      go_wp2
      refine bodyPost_ret (v := .tuple #[arrV (A5, n5, c5) (boxesP (xA, xn, xc)), .int .i64 0]) ?_ rfl (twR_ok (by rw [HRR.out]) (by rw [HRR.out]; exact HAV.out) (below_set9 HA6.out.bel (Nat.le_add_right _ 2) _ _ _ _ _ _ _ _ _))
      exact ret_arr2 (fn := Tryz.f22) (p := 8) (u := 9) rfl _ _ (w.heap.size + 2) (by rfl) (set9_block HA6.out.res _ _ _ _ _ _ _ _ _)
end Go.Proofs.YtiahegjdkejjpaaGreat
namespace Go.Proofs.YtiahegjdkejjpaaGreat
open Go Go.RowKit Go.Proofs Fl

theorem twoE_unknown {N : Nat} {f : Int} {a b : PA} (h : knownB f = false) : (twoE (N + 1) f a b).1 = 1 := by rw [twoE, if_pos h]
theorem twoE_frame {N : Nat} {f : Int} {a b : PA} (h : knownB f = true) (hf : (frameE a b).1 ≠ 0) : (twoE (N + 1) f a b).1 = (frameE a b).1 := by rw [twoE, if_neg (by rw [h]; decide), if_pos hf]
theorem twoE_box {N : Nat} {f : Int} {a b : PA} (h : knownB f = true) (hf : (frameE a b).1 = 0) (hx : a.fill = 2 ∨ b.fill = 2) : twoE (N + 1) f a b = bxE (lenE a b) (fun i => twoE N f (partA a i) (partA b i)) (frameE a b).2 := by
  rw [twoE, if_neg (by rw [h]; decide), if_neg (fun e => e hf), if_pos hx]
  rfl
theorem twoE_flat {N : Nat} {f : Int} {a b : PA} (h : knownB f = true) (hf : (frameE a b).1 = 0) (hx : ¬ (a.fill = 2 ∨ b.fill = 2)) : twoE (N + 1) f a b = flatR f a b := by
  rw [twoE, if_neg (by rw [h]; decide), if_neg (fun e => e hf), if_neg hx]
  rfl
theorem ptwo_any : ∀ (N : Nat) (H Ha Hb : Nat → Prop) (f : Int) (a b : PA) (d e : Nat) (h1 h2 : Sl) (p q : V8) (w : World), (∀ b, H b → b < w.heap.size) → (∀ b, Ha b → b < w.heap.size) → (∀ b, Hb b → b < w.heap.size) →
    GoodA d a → GoodA e b → SmA 1000000 a → SmA 1000000 b → depA a + depA b < N → AV Ha w a h1 p → AV Hb w b h2 q →
    Calls Tryz.prog 9 #[.int .i64 f, arrV h1 p, arrV h2 q] w (TwR H w (twoE N f a b))
  | 0, _, _, _, _, _, _, _, _, _, _, _, _, _, _, _, _, _, _, _, _, hN, _, _ => absurd hN (Nat.not_lt_zero _)
  | N + 1, H, Ha, Hb, f, a, b, d, e, h1, h2, p, q, w, hH, hHa, hHb, ga, gb, sa, sb, hN, va, vb => by
    have la : a.shape.length ≤ 1048576 := by have : a.shape.length ≤ 8 := ga.sh.2.1; omega
    have lb : b.shape.length ≤ 1048576 := by have : b.shape.length ≤ 8 := gb.sh.2.1; omega
    cases hk : knownB f with
    | false => exact two_unknown H f hk h1 h2 p q _ (twoE_unknown hk) w
    | true =>
      by_cases hf : (frameE a b).1 = 0
      · have hfo := frameE_ok ga gb hf
        by_cases hx : a.fill = 2 ∨ b.fill = 2
        · refine two_box f hk _ w hH va vb la lb hf (by
            by_cases h2 : a.fill = 2
            · exact .inl h2
            · exact .inr ⟨h2, hx.resolve_left h2⟩) ?_
          intro W H' s hb hH' hs
          rw [twoE_box hk hf hx]
          have hsz := hb.size
          have key : ∀ (Hs : Nat → Prop), ShV Hs W s (frameE a b).2 → Calls Tryz.prog 22 #[.int .i64 f, arrV h1 p, arrV h2 q, sv s] W (TwR H' W (bxE (lenE a b) (fun i => twoE N f (partA a i) (partA b i)) (frameE a b).2)) := by
            intro Hs gs
            refine boxes24_any (H := H') (Ha := Ha) (Hb := Hb) (Hs := Hs) f (fun i => twoE N f (partA a i) (partA b i)) (lenE a b) s (frameE a b).2 W hH' (fun b e => by have := hHa b e; omega) (fun b e => by have := hHb b e; omega) (AV.step va hb) (AV.step vb hb) gs hfo.1 (lenE_le sa sb) sa.len sb.len (fun i hi => ixP_both ga gb hf hi) ?_
            intro i hi H2 W2 u1 u2 v1 v2 hH2 g1 g2 hs2
            have hij := ixP_both ga gb hf hi
            have da := partA_dep hij.1
            have db := partA_dep hij.2
            refine ptwo_any N H2 Ha Hb f (partA a i) (partA b i) d e u1 u2 v1 v2 W2 hH2 (fun b e => by have := hHa b e; omega) (fun b e => by have := hHb b e; omega) (partA_good ga hij.1) (partA_good gb hij.2) (smA_one (by decide) sa i hij.1) (smA_one (by decide) sb i hij.2) ?_ g1 g2
            rcases hx with hx | hx
            · have := da.2 hx; omega
            · have := db.2 hx; omega
          rcases hs with ⟨rfl, h⟩ | ⟨rfl, h⟩
          · exact key Ha (by rw [h]; exact (va.shape).lat (Lat.below hb))
          · exact key Hb (by rw [h]; exact (vb.shape).lat (Lat.below hb))
        · rw [twoE_flat hk hf hx]
          exact two_flat f hk w hH hHa hHb va vb la lb (fun h => hx (.inl h)) (fun h => hx (.inr h)) hf hfo.2 sa.len sb.len
      · exact two_frame f hk _ (twoE_frame hk hf) w va vb la lb hf
end Go.Proofs.YtiahegjdkejjpaaGreat
namespace Go.Proofs.YtiahegjdkejjpaaGreat
open Go Go.RowKit Go.Proofs Fl

set_option maxHeartbeats 400000 in
theorem rnum_any (b : Nat) (H : Nat → Prop) (w : World) (hH : ∀ b, H b → b < w.heap.size) :
    Calls Tryz.prog 17 #[.float .f64 b] w (PlR H w (rawP (.nums [] [b])) 0) := by
  have HH := Lib.hid hH
  clear hH
  have HB := Lib.hid (bel2 w (plO nilS (some ⟨w.heap.size + 1, 0, none⟩, 1, 1) 0) (itO 0 b 0 nilS))
  have HR : Hid (((w.alloc (plO nilS (some ⟨w.heap.size + 1, 0, none⟩, 1, 1) 0)).alloc (itO 0 b 0 nilS)).heap[w.heap.size]? = some (plO nilS (some ⟨w.heap.size + 1, 0, none⟩, 1, 1) 0)) := block_up (bel1 _ _)
  have HI : Hid (At4 ((w.alloc (plO nilS (some ⟨w.heap.size + 1, 0, none⟩, 1, 1) 0)).alloc (itO 0 b 0 nilS)) (w.heap.size + 1) 0 0 b 0 nilS) := by
    have g := at4_box (w.alloc (plO nilS (some ⟨w.heap.size + 1, 0, none⟩, 1, 1) 0)) 0 b 0 nilS
    have e : (w.alloc (plO nilS (some ⟨w.heap.size + 1, 0, none⟩, 1, 1) 0)).heap.size = w.heap.size + 1 := by simp
    rw [e] at g
    exact g
  go_enter Tryz.func17, Tryz.ntmps17
  go_wp2
  refine bodyPost_ret (v := plV nilS (some ⟨w.heap.size + 1, 0, none⟩, 1, 1) 0) ?_ rfl ⟨nilS, (some ⟨w.heap.size + 1, 0, none⟩, 1, 1), rfl, ?_, HB.out⟩
  · exact ret_plain (fn := Tryz.f17) (p := 2) rfl _ _ w.heap.size (by rfl) HR.out
  · rw [rawP]
    refine pv_of (fun W hz hb => .inl ⟨none, 0, rfl, rfl⟩) rfl fun i hi => ?_
    have hi0 : i = 0 := by simpa using hi
    subst hi0
    exact ⟨w.heap.size + 1, 0, 0, b, 0, nilS, rfl, fun e => by have := HH.out _ e; omega, iv_none _ _ _ _ _ _ _, HI.out⟩

/-- one item appended to a row that the call owns, inside a region -/
theorem step_pushI {ops : Array Oper} {o : Oper} {a : Act} {K : Act → World → Prop} {Q : Exit → Act → World → Prop} {E : Prop} {w : World} (hgd : o.guard = none) (s x : Operand)
    (ho : o.op = .call { callee := .builtin .append, args := #[s, x], argTypes := #[23, 23] })
    (H : Nat → Prop) (B : Nat) (v : Value) (l : List RI) (hs : a.eval s = v) (hown : IOwn H w B v l) (q : I4) (A : RI) (hA : IV (fun b => H b ∨ v.ownBlock = some b) w A q.k q.n q.c q.x)
    (G : Nat) (hG : w.heap[G]? = some (itO q.k q.n q.c q.x)) (hx : a.eval x = .slice (some ⟨G, 0, none⟩) 1 1) (hl : l.length ≤ 1048576) (hB : B ≤ w.heap.size)
    (k : ∀ A' n' c' w', IOwn H w' B (.slice A' n' c') (l ++ [A]) → (∀ w0, Below B w0 w → Below B w0 w') → K (a.put o.dst (.slice A' n' c')) w') :
    if Region.wanted o (yielded ops a.tmps) = true then Oper.wp Tryz.prog o a w K Q else E := by
  obtain ⟨i0, hi0, hz0, hz1, hz2⟩ := info_parts item_info
  obtain ⟨qq, hrow, hel⟩ := hown
  refine step_append_lies w hgd s x 23 ho B 53 i0 _ 4 48 Tryz.underlying23 hi0 hz0 hz1 hz2 rfl (by omega) v l.length _ hs hrow ⟨G, 0, none⟩ 1 1 (itL q) hx rfl ?_ ?_ (by omega) (by unfold maxLen; omega) (by omega) hB _ rfl ?_
  · intro j u hj
    rw [add_zero_off, Nat.zero_add, cell_of_row _ G j _ _ (0, 0) hG]
    simpa using hj
  · intro u hu
    simp only [List.mem_cons, List.not_mem_nil, or_false] at hu
    rcases hu with rfl | rfl | rfl | rfl <;> rfl
  intro g cap w' hown' hg hat _
  have hsz : w.heap.size ≤ w'.heap.size := hg.size
  refine k _ _ _ w' ⟨fun i => if i < l.length then qq i else q, ?_, fun i hi => ?_⟩ (fun w0 hb => hb.grown hg hB fun k hk => (World.ownsRow.lt hrow k hk).1)
  · rw [show (l ++ [A]).length = l.length + 1 by simp, flatI_succ]
    have e : flatI l.length (fun i => if i < l.length then qq i else q) = flatI l.length qq := flatI_congr _ fun i hi => by rw [if_pos hi]
    rw [e, if_neg (Nat.lt_irrefl _)]
    exact hown'
  · have hlat : Lat (fun b => v.ownBlock = some b) w w' := ⟨hsz, fun b hb hn => hg.block b hb (fun e => hn e.symm)⟩
    have up : ∀ {A : RI} {q : I4}, IV (fun b => H b ∨ v.ownBlock = some b) w A q.k q.n q.c q.x → IV (fun b => H b ∨ (Value.slice (some ⟨g, 0, none⟩) (l.length + 1) cap).ownBlock = some b) w' A q.k q.n q.c q.x := by
      intro A q hA
      have h1 : IV (fun b => (H b ∨ v.ownBlock = some b) ∨ b = g) w A q.k q.n q.c q.x := IV.sub (fun b hb e => by
        rcases e with e | e
        · exact e
        · subst e
          rcases hat with e2 | e2
          · exact .inr e2
          · omega) hA
      have h2 : IV (fun b => (H b ∨ v.ownBlock = some b) ∨ b = g) w' A q.k q.n q.c q.x := IV.lat ⟨hlat.size, fun b hb hn => hlat.block b hb fun e => hn (.inl (.inr e))⟩ h1
      exact IV.sub (fun b _ e => by
        rcases e with e | e
        · exact .inl (.inl e)
        · have e3 : g = b := by
            have : (Value.slice (some ⟨g, 0, none⟩) (l.length + 1) cap).ownBlock = some g := rfl
            rw [this] at e
            injection e
          exact .inr e3.symm) h2
    by_cases hi2 : i < l.length
    · dsimp only
      rw [if_pos hi2, List.getElem_append_left hi2]
      exact up (hel i hi2)
    · have e : i = l.length := by rw [List.length_append] at hi; simp at hi; omega
      subst e
      dsimp only
      rw [if_neg hi2]
      simp only [List.getElem_append_right (Nat.le_refl _), Nat.sub_self, List.getElem_cons_zero]
      exact up hA

abbrev shO (n : Int) : Obj := .cells #[.int .i64 n] 3
/-- the memory of the loop of Nums -/
structure NmI (H : Nat → Prop) (w : World) (n : Nat) (l : List RI) (v : Value) (W : World) : Prop where
  own : IOwn (fun b => H b ∨ b = w.heap.size ∨ b = w.heap.size + 2) W (w.heap.size + 3) v l
  out : W.heap[w.heap.size + 2]? = some (.cells #[sv (some ⟨w.heap.size + 1, 0, none⟩, 1, 1), v, .int .i64 0] 25)
  res : W.heap[w.heap.size]? = some (.cells zeroPl 25)
  shp : W.heap[w.heap.size + 1]? = some (shO (n : Int))
  bel : Below w.heap.size w W
theorem NmI.step {H : Nat → Prop} {w W W' : World} {n : Nat} {l : List RI} {v : Value} (g : NmI H w n l v W) (hb : Below W.heap.size W W') : NmI H w n l v W' :=
  ⟨g.own.below hb, by rw [hb.block _ (lt_blk g.out)]; exact g.out, by rw [hb.block _ (lt_blk g.res)]; exact g.res, by rw [hb.block _ (lt_blk g.shp)]; exact g.shp, bel_both g.bel hb⟩
theorem NmI.push {H : Nat → Prop} {w W w' : World} {n : Nat} {l : List RI} {v v' : Value} {A : RI} (g : NmI H w n l v W) (hH : ∀ b, H b → b < w.heap.size) (hown : IOwn (fun b => H b ∨ b = w.heap.size ∨ b = w.heap.size + 2) w' (w.heap.size + 3) v' (l ++ [A])) (hb : Below (w.heap.size + 3) W w') :
    NmI H w n (l ++ [A]) v' (w'.setCell ⟨w.heap.size + 2, 1, none⟩ v') := by
  have e2 : w'.heap[w.heap.size + 2]? = some (.cells #[sv (some ⟨w.heap.size + 1, 0, none⟩, 1, 1), v, .int .i64 0] 25) := by rw [hb.block _ (by omega)]; exact g.out
  refine ⟨hown.lat (Lat.set (a := ⟨w.heap.size + 2, 1, none⟩) (.inr (.inr rfl)) v') (fun b e h2 => by
    have := (hown.own_lt e).1
    rcases h2 with h2 | h2
    · have := hH b h2; omega
    · omega), ?_, ?_, ?_, (g.bel.trans (hb.mono (by omega))).setCell (by show _ ≤ w.heap.size + 2; omega) _⟩
  · have h1 := heap_setCell_same _ (w.heap.size + 2) 1 _ _ v' e2
    rw [show (#[sv (some ⟨w.heap.size + 1, 0, none⟩, 1, 1), v, .int .i64 0] : Array Value).setIfInBounds 1 v' = #[sv (some ⟨w.heap.size + 1, 0, none⟩, 1, 1), v', .int .i64 0] by simp] at h1
    exact h1
  · rw [Below.heap_setCell _ _ _ _ (by show w.heap.size ≠ w.heap.size + 2; omega), hb.block _ (by omega)]
    exact g.res
  · rw [Below.heap_setCell _ _ _ _ (by show w.heap.size + 1 ≠ w.heap.size + 2; omega), hb.block _ (by omega)]
    exact g.shp

set_option maxRecDepth 100000 in
set_option maxHeartbeats 1000000 in
theorem rnums_any (v : Value) (l : List Nat) (H : Nat → Prop) (w : World) (hH : ∀ b, H b → b < w.heap.size) (hv : Reads1 w v (l.map (Value.float .f64))) (hl : l.length ≤ 1048576) :
    Calls Tryz.prog 16 #[v] w (PlR H w (rawP (.nums [l.length] l)) 0) := by
  obtain ⟨A, n, c, rfl, hn, hcell⟩ := map_open hv
  obtain ⟨L, hL⟩ : ∃ L, L = (l.map fun x => RI.mk 0 x 0 []) := ⟨_, rfl⟩
  have hraw : rawP (.nums [l.length] l) = .mk [(n : Int)] L 0 := by rw [rawP, hL, hn]; rfl
  rw [hraw]
  have hLl : L.length = n := by rw [hL, hn]; simp
  have HLI : Hid (∀ i (hi : i < L.length) (h2 : i < l.length), L[i] = RI.mk 0 l[i] 0 []) := by
    intro i hi h2
    subst hL
    simp
  have HLL := Lib.hid hLl
  have HC := Lib.hid hcell
  have HN := Lib.hid hn
  have HH := Lib.hid hH
  have hnb : n ≤ 1048576 := by omega
  obtain ⟨w0, hw0⟩ : ∃ w0, w0 = ((w.alloc (.cells zeroPl 25)).alloc (shO (n : Int))).alloc (plO (some ⟨w.heap.size + 1, 0, none⟩, 1, 1) nilS 0) := ⟨_, rfl⟩
  have HW0 := Lib.hid hw0
  have s1 : (w.alloc (.cells zeroPl 25)).heap.size = w.heap.size + 1 := by simp
  have s2 : ((w.alloc (.cells zeroPl 25)).alloc (shO (n : Int))).heap.size = w.heap.size + 2 := by simp
  have HI0 : Hid (NmI H w n (L.take 0) (.slice none 0 0) w0) := by
    have h2 := heap_alloc_new ((w.alloc (.cells zeroPl 25)).alloc (shO (n : Int))) (plO (some ⟨w.heap.size + 1, 0, none⟩, 1, 1) nilS 0)
    have h1 := blk_alloc (heap_alloc_new (w.alloc (.cells zeroPl 25)) (shO (n : Int))) (plO (some ⟨w.heap.size + 1, 0, none⟩, 1, 1) nilS 0)
    have h0 := blk_alloc (blk_alloc (heap_alloc_new w (.cells zeroPl 25)) (shO (n : Int))) (plO (some ⟨w.heap.size + 1, 0, none⟩, 1, 1) nilS 0)
    rw [s2, ← hw0] at h2
    rw [s1, ← hw0] at h1
    rw [← hw0] at h0
    exact ⟨IOwn.nil _ _ _, h2, h0, h1, by rw [hw0]; exact bel3 w _ _ _⟩
  clear hL hraw hLl hn hcell hv hl hH hw0 s1 s2
  go_enter Tryz.func16, Tryz.ntmps16
  go_wp2
  rw [← HW0.out]
  go_loopw [4] (fun iv wr => ∃ (i : Nat) (v : Value), i ≤ n ∧ iv = .int .i64 (i : Int) ∧ NmI H w n (L.take i) v wr) (fun iv _ => n - (intOf iv).toNat)
  case atStart => exact ⟨0, _, Nat.zero_le _, rfl, HI0.out⟩
  case round =>
    obtain ⟨i, v, hi, rfl, hti⟩ := hrel
    have HTI := Lib.hid hti
    clear hti
    obtain ⟨vA, vn, vc, hvn⟩ : ∃ A n c, v = .slice A n c := by obtain ⟨a, c, e⟩ := HTI.out.own.len; exact ⟨a, _, c, e⟩
    subst hvn
    obtain ⟨⟨e0, e1, e2⟩, ez⟩ := block3 (show wr.heap[w.heap.size + 1 + 1]? = _ from HTI.out.out)
    have g1 := fun o => cell_box1 e1 o
    by_cases him : i < n
    · have him2 : (i : Int) < (n : Int) := by omega
      have hik : i < l.length := by have := HN.out; omega
      have hiL : i < L.length := by have := HLL.out; omega
      obtain ⟨b, o, rfl, hce⟩ := HC.out i hik
      have HTK : Hid (L.take (i + 1) = L.take i ++ [L[i]]) := List.take_succ_eq_append_getElem hiL
      have HLX := Lib.hid (HLI.out i hiL hik)
      have hcl := cell_up HTI.out.bel hce
      have hlb : (L.take i).length ≤ 1048576 := by rw [List.length_take]; omega
      have HLB := Lib.hid hlb
      clear hlb hce
      generalize l[i] = y at HLX hcl
      generalize L[i] = li at HTK HLX
      have hsz : w.heap.size + 3 ≤ wr.heap.size := by have := lt_blk HTI.out.out; omega
      have HBX := Lib.hid ((bel1 wr (itO 0 y 0 nilS)).drew)
      have HTW := Lib.hid (HTI.out.step HBX.out)
      have HBK : Hid ((wr.alloc (itO 0 y 0 nilS)).drew.heap[wr.heap.size]? = some (itO 0 y 0 nilS)) := heap_alloc_new wr (itO 0 y 0 nilS)
      have HAV : Hid (IV (fun b => (H b ∨ b = w.heap.size ∨ b = w.heap.size + 2) ∨ (Value.slice vA vn vc).ownBlock = some b) (wr.alloc (itO 0 y 0 nilS)).drew li 0 y 0 nilS) := by unfold Hid; rw [HLX.out]; exact iv_none _ _ _ _ _ _ _
      have HSZ : Hid (w.heap.size + 3 ≤ (wr.alloc (itO 0 y 0 nilS)).drew.heap.size) := by unfold Hid; have := HBX.out.size; omega
      go_wp2
      go_region_law (refine step_pushI rfl (.tmp 16) (.tmp 22) rfl (fun b => H b ∨ b = w.heap.size ∨ b = w.heap.size + 2) (w.heap.size + 3) (.slice vA vn vc) (L.take i) (by rfl) HTW.out.own ⟨0, y, 0, nilS⟩ li HAV.out wr.heap.size HBK.out (by rfl) HLB.out HSZ.out ?_; intro vA' vn' vc' w' hown' hbw; have HBW := Lib.hid (hbw _ (Below.refl _ _)); have HP := Lib.hid (HTW.out.push HH.out hown' HBW.out); (obtain ⟨⟨q0, q1, q2⟩, qz⟩ := block3 (show w'.heap[w.heap.size + 1 + 1]? = _ from (HBW.out.block _ (by omega)).trans HTW.out.out)); clear hown' hbw)
      all_goals
        go_wp2
        go_roundw
        case rel => exact ⟨i + 1, _, by omega, by go_num, by rw [HTK.out]; exact HP.out⟩
        case measure => simp [intOf]; omega
    · have hge : ¬ (i : Int) < (n : Int) := by omega
      obtain rfl : i = n := by omega
      have HTL : Hid (L.take i = L) := by unfold Hid; rw [← HLL.out]; exact List.take_length
      obtain ⟨⟨z0, z1, z2⟩, zz⟩ := block3 HTI.out.res
      have HRB := Lib.hid (set3_block HTI.out.res (sv (some ⟨w.heap.size + 1, 0, none⟩, 1, 1)) (.slice vA vn vc) (.int .i64 0))
      have HBB := Lib.hid (below_set3 HTI.out.bel (G := w.heap.size) (Nat.le_refl _) (sv (some ⟨w.heap.size + 1, 0, none⟩, 1, 1)) (.slice vA vn vc) (.int .i64 0))
      have hsr : RdH (fun b => H b ∨ b = w.heap.size ∨ b = w.heap.size + 2) wr (sv (some ⟨w.heap.size + 1, 0, none⟩, 1, 1)) ([(i : Int)].map (Value.int .i64)) := by
        intro W hz hb
        refine .inr ⟨w.heap.size + 1, 0, 1, 1, rfl, rfl, fun j hj => ?_⟩
        have hj0 : j = 0 := by simpa using hj
        subst hj0
        have hblk : W.heap[w.heap.size + 1]? = some (shO (i : Int)) := by
          rw [hb _ (lt_blk HTI.out.shp) (by rintro (e | e | e); (have := HH.out _ e; omega); omega; omega)]
          exact HTI.out.shp
        rw [cell_of_row _ (w.heap.size + 1) (0 + 0) _ _ (0, 0) hblk]
        rfl
      obtain ⟨x', hx', hpv⟩ := HTI.out.own.pv (fun b e => by
        rcases e with e | e
        · have := HH.out b e; omega
        · omega) hsr 0
      obtain ⟨xA, xn, xc⟩ := x'
      have h9 : Value.slice vA vn vc = .slice xA xn xc := hx'
      injection h9 with h10 h11 h12
      subst h10; subst h11; subst h12
      rw [HTL.out] at hpv
      have HPV := Lib.hid (PV.sub (H' := H) (fun _ _ e => .inl e) (PV.lat (Lat.set3 (G := w.heap.size) (.inr (.inl rfl)) (sv (some ⟨w.heap.size + 1, 0, none⟩, 1, 1)) (.slice vA vn vc) (.int .i64 0)) hpv))
      clear hpv hx' hsr
      go_wp2
      refine bodyPost_ret (v := plV (some ⟨w.heap.size + 1, 0, none⟩, 1, 1) (vA, vn, vc) 0) ?_ rfl ⟨(some ⟨w.heap.size + 1, 0, none⟩, 1, 1), (vA, vn, vc), rfl, HPV.out, HBB.out⟩
      exact ret_plain (fn := Tryz.f16) (p := 2) rfl _ _ w.heap.size (by rfl) HRB.out

set_option maxRecDepth 100000 in
set_option maxHeartbeats 1000000 in
theorem vbx_any {H : Nat → Prop} {w : World} {a : PA} {h : Sl} {p : V8} (hav : AV H w a h p) (hH : ∀ b, H b → b < w.heap.size) :
    Calls Tryz.prog 18 #[arrV h p] w (AaR H w (.boxes [] [a])) := by
  obtain ⟨w0, hw0⟩ : ∃ w0, w0 = ((w.alloc (arrO h p)).alloc zeroO).alloc (arrO h p) := ⟨_, rfl⟩
  have HW0 := Lib.hid hw0
  have hb0 : Below w.heap.size w w0 := by rw [hw0]; exact bel3 w _ _ _
  have s1 : (w.alloc (arrO h p)).heap.size = w.heap.size + 1 := by simp
  have s2 : ((w.alloc (arrO h p)).alloc zeroO).heap.size = w.heap.size + 2 := by simp
  have h2 : At9 w0 (w.heap.size + 2) 0 h p := by
    have g := at9_new ((w.alloc (arrO h p)).alloc zeroO) h p
    rw [s2, ← hw0] at g
    exact g
  have h1 : w0.heap[w.heap.size + 1]? = some zeroO := by
    have g := blk_alloc (heap_alloc_new (w.alloc (arrO h p)) zeroO) (arrO h p)
    rw [s1, ← hw0] at g
    exact g
  have hsl : ASl (fun b => H b ∨ b = w.heap.size + 1) w0 (some ⟨w.heap.size + 2, 0, none⟩, 1, 1) [a] := by
    refine ⟨rfl, .inr ⟨w.heap.size + 2, 0, rfl, ?_, avs_of _ _ fun i hi => ?_⟩⟩
    · rintro (e | e)
      · have := hH _ e; omega
      · omega
    · have hi0 : i = 0 := by simpa using hi
      subst hi0
      exact ⟨h, p, h2, (AV.sub (fun b hb e => by
        rcases e with e | e
        · exact e
        · omega) hav).step hb0⟩
  have HC := Lib.hid (boxes_any hsl (by simp) (fun b e => by
    have := lt_blk h1
    rcases e with e | e
    · have := hH b e; omega
    · omega))
  unfold BxR at HC
  have HB0 := Lib.hid hb0
  have HR := Lib.hid h1
  have HH := Lib.hid hH
  clear hav hsl h1 h2 s1 s2 hb0 hw0 hH
  go_enter Tryz.func18, Tryz.ntmps18
  go_wp2_with fail
  rw [← HW0.out]
  refine HC.out.mono ?_
  rintro e w1 ⟨y, rfl, hy, hb⟩
  have HB1 := Lib.hid (bel_both HB0.out hb)
  have hr1 : w1.heap[w.heap.size + 1]? = some zeroO := by rw [hb.block _ (lt_blk HR.out)]; exact HR.out
  have HR1 := Lib.hid hr1
  obtain ⟨⟨z0, z1, z2, z3, z4, z5, z6, z7, z8⟩, zz⟩ := zero_block hr1
  have HAV : Hid (AV H (set9 w1 (w.heap.size + 1) (sv nilS) (.int .i64 6) (sv nilS) (.int .i64 0) (sv nilS) (sv nilS) (sv nilS) (sv nilS) (sv y)) (.boxes [] [a]) nilS (boxesP y)) :=
    AV.sub (fun b _ e => .inl e) (AV.lat (Lat.set9 (G := w.heap.size + 1) (.inr rfl) _ _ _ _ _ _ _ _ _) (ASl.av hy (shV_nil _ _)))
  clear hb hy hr1
  go_wp2
  refine bodyPost_ret (v := arrV nilS (boxesP y)) ?_ rfl ⟨nilS, boxesP y, rfl, HAV.out, below_set9 HB1.out (Nat.le_succ _) _ _ _ _ _ _ _ _ _⟩
  exact ret_arr (fn := Tryz.f18) (p := 2) rfl _ _ (w.heap.size + 1) (by rfl) (set9_block HR1.out _ _ _ _ _ _ _ _ _)
end Go.Proofs.YtiahegjdkejjpaaGreat
