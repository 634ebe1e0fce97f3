/- The walk of pervade.boxes over a contract of Two at the parts. Conditions: at most 1000000 elements. -/
import Derived.Test.YtiahegjdkejjpaaGreatMg31
import Derived.Test.YtiahegjdkejjpaaGreatMg32
namespace Go.Proofs.YtiahegjdkejjpaaGreat
open Go Go.RowKit Go.Proofs Fl
theorem A3.more {w W W' : World} {h1 h2 : Sl} {p q : V8} (g : A3 w W h1 p h2 q) (hb : Below (w.heap.size + 3) W W') : A3 w W' h1 p h2 q :=
 ⟨g.one.of fun j => hb.cell (p := ⟨w.heap.size, j, none⟩) (by show w.heap.size < _; omega), g.two.of fun j => hb.cell (p := ⟨w.heap.size + 1, j, none⟩) (by show w.heap.size + 1 < _; omega), by rw [hb.block _ (by omega)]; exact g.res, g.bel.trans (hb.mono (by omega))⟩
structure BxS (w wr : World) (h1 : Sl) (p : V8) (h2 : Sl) (q : V8) (W : World) : Prop where
 a3 : A3 w W h1 p h2 q
 bel : Below wr.heap.size wr W
 lo : w.heap.size + 3 ≤ wr.heap.size
theorem BxS.step {w wr W W' : World} {h1 h2 : Sl} {p q : V8} (g : BxS w wr h1 p h2 q W) (hb : Below W.heap.size W W') : BxS w wr h1 p h2 q W' := ⟨g.a3.step hb, bel_both g.bel hb, g.lo⟩
theorem BxS.put {w wr W : World} {h1 h2 : Sl} {p q : V8} (g : BxS w wr h1 p h2 q W) {b j : Nat} (hb : wr.heap.size ≤ b) (u : Value) : BxS w wr h1 p h2 q (W.setCell ⟨b, j, none⟩ u) := ⟨g.a3.more ((Below.refl _ W).setCell (by show _ ≤ b; have := g.lo; omega) u), g.bel.setCell (by show _ ≤ b; exact hb) u, g.lo⟩
theorem BxS.dr {w wr W : World} {h1 h2 : Sl} {p q : V8} (g : BxS w wr h1 p h2 q W) : BxS w wr h1 p h2 q W.drew := g.step (Below.refl _ W).drew
theorem BxS.al {w wr W : World} {h1 h2 : Sl} {p q : V8} (g : BxS w wr h1 p h2 q W) (o : Obj) : BxS w wr h1 p h2 q (W.alloc o) := g.step (bel1 W o)
theorem BxS.self {w wr W : World} {h1 h2 : Sl} {p q : V8} (g : BxS w wr h1 p h2 q W) : BxS w wr h1 p h2 q W := g
theorem bxs_s {w wr W : World} {h1 h2 : Sl} {p q : V8} (g : BxS w wr h1 p h2 q W) : ((W.cell? ⟨w.heap.size, 0, none⟩ = some (.slice h1.1 h1.2.1 h1.2.2) ∧ W.cell? ⟨w.heap.size, 1, none⟩ = some (.int .i64 p.k) ∧ W.cell? ⟨w.heap.size, 2, none⟩ = some (.slice p.b.1 p.b.2.1 p.b.2.2) ∧ W.cell? ⟨w.heap.size, 3, none⟩ = some (.int .i64 p.bn) ∧ W.cell? ⟨w.heap.size, 4, none⟩ = some (.slice p.s.1 p.s.2.1 p.s.2.2) ∧ W.cell? ⟨w.heap.size, 5, none⟩ = some (.slice p.i.1 p.i.2.1 p.i.2.2) ∧ W.cell? ⟨w.heap.size, 6, none⟩ = some (.slice p.f.1 p.f.2.1 p.f.2.2) ∧ W.cell? ⟨w.heap.size, 7, none⟩ = some (.slice p.c.1 p.c.2.1 p.c.2.2) ∧ W.cell? ⟨w.heap.size, 8, none⟩ = some (.slice p.x.1 p.x.2.1 p.x.2.2)) ∧ (W.cell? ⟨w.heap.size + 1, 0, none⟩ = some (.slice h2.1 h2.2.1 h2.2.2) ∧ W.cell? ⟨w.heap.size + 1, 1, none⟩ = some (.int .i64 q.k) ∧ W.cell? ⟨w.heap.size + 1, 2, none⟩ = some (.slice q.b.1 q.b.2.1 q.b.2.2) ∧ W.cell? ⟨w.heap.size + 1, 3, none⟩ = some (.int .i64 q.bn) ∧ W.cell? ⟨w.heap.size + 1, 4, none⟩ = some (.slice q.s.1 q.s.2.1 q.s.2.2) ∧ W.cell? ⟨w.heap.size + 1, 5, none⟩ = some (.slice q.i.1 q.i.2.1 q.i.2.2) ∧ W.cell? ⟨w.heap.size + 1, 6, none⟩ = some (.slice q.f.1 q.f.2.1 q.f.2.2) ∧ W.cell? ⟨w.heap.size + 1, 7, none⟩ = some (.slice q.c.1 q.c.2.1 q.c.2.2) ∧ W.cell? ⟨w.heap.size + 1, 8, none⟩ = some (.slice q.x.1 q.x.2.1 q.x.2.2))) ∧ BxS w wr h1 p h2 q W := ⟨⟨g.a3.one.c, g.a3.two.c⟩, g⟩
def AvAt (H : Nat → Prop) (a : PA) (h : Sl) (p : V8) (W : World) : Prop := AV H W a h p
theorem AvAt.step {H : Nat → Prop} {a : PA} {h : Sl} {p : V8} {W W' : World} (g : AvAt H a h p W) (hb : Below W.heap.size W W') : AvAt H a h p W' := AV.step g hb
theorem AvAt.dr {H : Nat → Prop} {a : PA} {h : Sl} {p : V8} {W : World} (g : AvAt H a h p W) : AvAt H a h p W.drew := g.step (Below.refl _ W).drew
theorem AvAt.al {H : Nat → Prop} {a : PA} {h : Sl} {p : V8} {W : World} (g : AvAt H a h p W) (o : Obj) : AvAt H a h p (W.alloc o) := g.step (bel1 W o)
theorem AvAt.self {H : Nat → Prop} {a : PA} {h : Sl} {p : V8} {W : World} (g : AvAt H a h p W) : AvAt H a h p W := g
def AvIf (H : Nat → Prop) (r : Int × PA) (h : Sl) (u : V8) (W : World) : Prop := (r.1 = 0 → AV H W r.2 h u) ∧ (r.1 ≠ 0 → h = nilS ∧ u = zeroP)
def TwU (H : Nat → Prop) (w : World) (r : Int × PA) (e : Ending) (w' : World) : Prop := ∃ (h : Sl) (u : V8), e = .returned (.tuple #[arrV h u, .int .i64 r.1]) ∧ AvIf H r h u w' ∧ Below w.heap.size w w'
theorem TwR.u {H : Nat → Prop} {w w' : World} {r : Int × PA} {e : Ending} (g : TwR H w r e w') : TwU H w r e w' := by
 rcases g with ⟨h0, h, u, rfl, ha, hb⟩ | ⟨h0, rfl, hb⟩
 ·exact ⟨h, u, by rw [h0], ⟨fun _ => ha, fun e => absurd h0 e⟩, hb⟩
 ·exact ⟨nilS, zeroP, rfl, ⟨fun e => absurd e h0, fun _ => ⟨rfl, rfl⟩⟩, hb⟩
def ZB (Z : Nat) (W : World) : Prop := W.heap[Z]? = some zeroO
theorem ZB.new (W : World) : ZB W.heap.size (W.alloc zeroO) := heap_alloc_new W _
theorem ZB.dr {Z : Nat} {W : World} (g : ZB Z W) : ZB Z W.drew := g
theorem ZB.step {Z : Nat} {W W' : World} (g : ZB Z W) (hb : Below W.heap.size W W') : ZB Z W' := by
 unfold ZB at g ⊢
 rw [hb.block _ (lt_blk g)]
 exact g
def BxMid (K : Nat → Prop) (w wr : World) (h1 : Sl) (p : V8) (h2 : Sl) (q : V8) (r : Int × PA) (v e : Value) (wx : World) : Prop :=
 ∃ (V : Nat) (h : Sl) (u : V8), v = .pointer (some ⟨V, 0, none⟩) ∧ e = .int .i64 r.1 ∧ wr.heap.size ≤ V ∧ wx.heap[V]? = some (arrO h u) ∧ AvIf (fun b => K b ∨ b = V) r h u wx ∧ BxS w wr h1 p h2 q wx
theorem bxMid_new {K : Nat → Prop} {w wr W5 w5 : World} {h1 h2 : Sl} {p q : V8} {r : Int × PA} {h : Sl} {u : V8} (hav : AvIf (Hole K wr W5) r h u w5) (hst : BxS w wr h1 p h2 q w5) :
  BxMid K w wr h1 p h2 q r (.pointer (some ⟨w5.heap.size, 0, none⟩)) (.int .i64 r.1) (w5.alloc (arrO h u)) :=
 ⟨w5.heap.size, h, u, rfl, rfl, hst.bel.size, heap_alloc_new w5 _, ⟨fun h0 => (AV.sub (fun b hb e => by
  rcases e with e | e
  ·exact .inl e
  ·omega) (hav.1 h0)).step (bel1 w5 _), hav.2⟩, hst.al _⟩
theorem bxMid_old {K : Nat → Prop} {w wr W5 w5 : World} {h1 h2 : Sl} {p q : V8} {r : Int × PA} {h : Sl} {u : V8} {Z : Nat} (hav : AvIf (Hole K wr W5) r h u w5) (hst : BxS w wr h1 p h2 q w5) (hz : ZB Z w5) (h5 : ZB Z W5) (hZ : wr.heap.size ≤ Z) :
  BxMid K w wr h1 p h2 q r (.pointer (some ⟨Z, 0, none⟩)) (.int .i64 r.1) (set9 w5 Z (sv h) (.int .i64 u.k) (sv u.b) (.int .i64 u.bn) (sv u.s) (sv u.i) (sv u.f) (sv u.c) (sv u.x)) := by
 have hzw := lt_blk h5
 have hwr := hst.lo
 refine ⟨Z, h, u, rfl, rfl, hZ, set9_block hz _ _ _ _ _ _ _ _ _, ⟨fun h0 => AV.lat (Lat.set9 (H := fun b => K b ∨ b = Z) (G := Z) (.inr rfl) _ _ _ _ _ _ _ _ _) (AV.sub (fun b hb e => ?_) (hav.1 h0)), hav.2⟩, ⟨hst.a3.more (below_set9 (Below.refl _ w5) (by omega) _ _ _ _ _ _ _ _ _), below_set9 hst.bel hZ _ _ _ _ _ _ _ _ _, hwr⟩⟩
 rcases e with e | e
 ·exact .inl e
 ·exact .inr ⟨by omega, by omega⟩
structure BxI (H : Nat → Prop) (w : World) (h1 : Sl) (p : V8) (h2 : Sl) (q : V8) (R : Nat → Int × PA) (n c G : Nat) (hh : Nat → Sl) (pp : Nat → V8) (W : World) : Prop where
 a3 : A3 w W h1 p h2 q
 row : ARow W G n hh pp
 ok : ∀ j, j < c → (R j).1 = 0 ∧ AV (fun b => H b ∨ b = w.heap.size + 2 ∨ b = G) W (R j).2 (hh j) (pp j)
theorem BxI.step {H : Nat → Prop} {w W W' : World} {h1 h2 : Sl} {p q : V8} {R : Nat → Int × PA} {n c G : Nat} {hh : Nat → Sl} {pp : Nat → V8} (g : BxI H w h1 p h2 q R n c G hh pp W) (hb : Below W.heap.size W W') : BxI H w h1 p h2 q R n c G hh pp W' :=
 ⟨g.a3.step hb, g.row.below hb, fun j hj => ⟨(g.ok j hj).1, (g.ok j hj).2.step hb⟩⟩
theorem BxI.put {H : Nat → Prop} {w W : World} {h1 h2 : Sl} {p q : V8} {R : Nat → Int × PA} {n c G : Nat} {hh : Nat → Sl} {pp : Nat → V8} (g : BxI H w h1 p h2 q R n c G hh pp W) (hG : w.heap.size + 3 ≤ G) (hc : c < n) {h : Sl} {u : V8} (h0 : (R c).1 = 0) (hav : AV (fun b => H b ∨ b = w.heap.size + 2 ∨ b = G) W (R c).2 h u) :
  BxI H w h1 p h2 q R n (c + 1) G (fun j => if j = c then h else hh j) (fun j => if j = c then u else pp j) (set9o W G (c * 9) (sv h) (.int .i64 u.k) (sv u.b) (.int .i64 u.bn) (sv u.s) (sv u.i) (sv u.f) (sv u.c) (sv u.x)) := by
 have hB : Below (w.heap.size + 3) W (set9o W G (c * 9) (sv h) (.int .i64 u.k) (sv u.b) (.int .i64 u.bn) (sv u.s) (sv u.i) (sv u.f) (sv u.c) (sv u.x)) := below_set9o (Below.refl _ W) hG _ _ _ _ _ _ _ _ _ _
 have hL : Lat (fun b => H b ∨ b = w.heap.size + 2 ∨ b = G) W (set9o W G (c * 9) (sv h) (.int .i64 u.k) (sv u.b) (.int .i64 u.bn) (sv u.s) (sv u.i) (sv u.f) (sv u.c) (sv u.x)) :=
  ⟨by rw [set9o_size]; exact Nat.le_refl _, fun b _ hn => set9o_other (fun e => hn (.inr (.inr e))) _ _ _ _ _ _ _ _ _⟩
 refine ⟨g.a3.more hB, g.row.put hc h u, fun j hj => ?_⟩
 by_cases e : j = c
 ·subst e
  rw [if_pos rfl, if_pos rfl]
  exact ⟨h0, AV.lat hL hav⟩
 ·rw [if_neg e, if_neg e]
  have := g.ok j (by omega)
  exact ⟨this.1, AV.lat hL this.2⟩
def bxE (n : Nat) (R : Nat → Int × PA) (sh : List Nat) : Int × PA := if (seqE ((List.range n).map R)).1 ≠ 0 then ((seqE ((List.range n).map R)).1, default) else (0, .boxes sh (seqE ((List.range n).map R)).2)
theorem bxE_ok {n : Nat} {R : Nat → Int × PA} (sh : List Nat) (h : ∀ j, j < n → (R j).1 = 0) : bxE n R sh = (0, .boxes sh ((List.range n).map fun j => (R j).2)) := by
 have e := seqE_ok (rs := (List.range n).map R) (fun i hi => by simp at hi ⊢; exact h i hi)
 unfold bxE
 rw [e]
 simp
theorem bxE_bad {n c : Nat} {R : Nat → Int × PA} (sh : List Nat) (hc : c < n) (h : ∀ j, j < c → (R j).1 = 0) (hb : (R c).1 ≠ 0) : (bxE n R sh).1 = (R c).1 := by
 have e := seqE_bad (rs := (List.range n).map R) (k := c) (by simpa using hc) (fun i hi => by simp; exact h i hi) (by simpa using hb)
 simp only [List.getElem_map, List.getElem_range] at e
 unfold bxE
 rw [e, if_pos (by simpa using hb)]
set_option maxRecDepth 100000 in
set_option maxHeartbeats 4000000 in
theorem boxes24_any {H Ha Hb Hs : Nat → Prop} (f : Int) (R : Nat → Int × PA) (n : Nat) {a b : PA} {h1 h2 : Sl} {p q : V8} (s : Sl) (sh : List Nat) (w : World) (hH : ∀ b, H b → b < w.heap.size) (hHa : ∀ b, Ha b → b < w.heap.size) (hHb : ∀ b, Hb b → b < w.heap.size)
  (ga : AV Ha w a h1 p) (gb : AV Hb w b h2 q) (gs : ShV Hs w s sh) (hsh : OkSh sh n) (hn : n ≤ 1000000) (hla : a.len ≤ 1000000) (hlb : b.len ≤ 1000000) (hix : ∀ i, i < n → ixP a.len i < a.len ∧ ixP b.len i < b.len)
  (hIH : ∀ i, i < n → ∀ (H' : Nat → Prop) (W : World) (u1 u2 : Sl) (v1 v2 : V8), (∀ b, H' b → b < W.heap.size) → AV Ha W (partA a i) u1 v1 → AV Hb W (partA b i) u2 v2 → w.heap.size ≤ W.heap.size → Calls Tryz.prog 9 #[.int .i64 f, arrV u1 v1, arrV u2 v2] W (TwR H' W (R i))) :
  Calls Tryz.prog 22 #[.int .i64 f, arrV h1 p, arrV h2 q, sv s] w (TwR H w (bxE n R sh)) := by
 have HPR := Lib.hid (fun W (hb : Below w.heap.size w W) => product_any (sv s) sh 1048576 W (Keeps.lat gs (Lat.below hb)).now (by have := hsh.1; omega))
 rw [prodE_ok hsh (most := 1048576) (by omega)] at HPR
 have HPA := Lib.hid (fun i (hi : i < n) W (hs : A3 w W h1 p h2 q) => part_any W (AV.step ga hs.bel) (fun b e => by have := hHa b e; have := hs.sz; omega) i (by omega) (hix i hi).1 hla)
 have HPB := Lib.hid (fun i (hi : i < n) W (hs : A3 w W h1 p h2 q) => part_any W (AV.step gb hs.bel) (fun b e => by have := hHb b e; have := hs.sz; omega) i (by omega) (hix i hi).2 hlb)
 unfold AaR at HPA HPB
 have HII := Lib.hid (fun i (hi : i < n) (H' : Nat → Prop) (W : World) (hH' : ∀ b, H' b → b < W.heap.size) (u1 u2 : Sl) (v1 v2 : V8) (hs : A3 w W h1 p h2 q) (g1 : AvAt Ha (partA a i) u1 v1 W) (g2 : AvAt Hb (partA b i) u2 v2 W) => (hIH i hi H' W u1 u2 v1 v2 hH' g1 g2 hs.bel.size).mono fun _ _ t => TwR.u t)
 unfold TwU at HII
 have HGS := Lib.hid gs
 have HH := Lib.hid hH
 have HSL : Hid (sh.length ≤ 1048576) := by have := hsh.1; unfold Hid; omega
 have HS0 := Lib.hid (A3.new w h1 h2 p q)
 have HR := Lib.hid (fun h => bxE_ok (R := R) (n := n) sh h)
 have HRB := Lib.hid (fun c (hc : c < n) h hb => bxE_bad (R := R) (n := n) (c := c) sh hc h hb)
 have hmk := run_make_arrs n (by omega)
 generalize bxE n R sh = r at HR HRB ⊢
 clear ga gb gs hsh hla hlb hix hIH hH hHa hHb
 go_enter Tryz.func22, Tryz.ntmps22
 go_wp2_with fail
 refine (HPR.out _ HS0.out.bel).mono ?_
 rintro e w1 ⟨rfl, hw1⟩
 rw [hw1] at HS0
 clear hw1 HPR
 go_wp2
 have HB1 := Lib.hid (bel1 w1 (.cells (madeCells zeroL (n * 9)) 40))
 have HG : Hid (w.heap.size + 3 ≤ w1.heap.size) := HS0.out.sz
 have HI0 : Hid (BxI H w h1 p h2 q R n 0 w1.heap.size (fun _ => nilS) (fun _ => zeroP) (w1.alloc (.cells (madeCells zeroL (n * 9)) 40))) := ⟨HS0.out.step HB1.out, ARow.made w1 n, fun j hj => absurd hj (Nat.not_lt_zero _)⟩
 generalize w1.alloc (.cells (madeCells zeroL (n * 9)) 40) = w2 at HI0 HB1 ⊢
 generalize w1.heap.size = G at HI0 HG ⊢
 clear HS0 HB1
 go_loopw [29] (fun iv wr => ∃ (c : Nat) (hh : Nat → Sl) (pp : Nat → V8), c ≤ n ∧ iv = .int .i64 (c : Int) ∧ BxI H w h1 p h2 q R n c G hh pp wr) (fun iv _ => n - (intOf iv).toNat)
 case atStart => exact ⟨0, _, _, Nat.zero_le _, rfl, HI0.out⟩
 case round =>
  obtain ⟨c, hh, pp, hc, rfl, hti⟩ := hrel
  have HTI := Lib.hid hti
  clear hti HI0
  by_cases hlt : c < n
  ·have hlt2 : (c : Int) < (n : Int) := by omega
   have HA := Lib.hid (fun W (hs : BxS w wr h1 p h2 q W) => HPA.out c hlt W hs.a3)
   have HBB := Lib.hid (fun W (hs : BxS w wr h1 p h2 q W) => HPB.out c hlt W hs.a3)
   have hwr : w.heap.size + 3 ≤ wr.heap.size := HTI.out.a3.sz
   have HST0 : Hid (BxS w wr h1 p h2 q wr) := ⟨HTI.out.a3, Below.refl _ _, hwr⟩
   have HKK : Hid (∀ b, (H b ∨ b = w.heap.size + 2 ∨ b = G) → b < wr.heap.size) := fun b e => by
    have h9 := HTI.out.row.lt
    rcases e with e | e | e
    ·have := HH.out b e; omega
    ·omega
    ·omega
   have HTW := Lib.hid (fun W (u1 u2 : Sl) (v1 v2 : V8) (hs : BxS w wr h1 p h2 q W) => HII.out c hlt (Hole (fun b => H b ∨ b = w.heap.size + 2 ∨ b = G) wr W) W (Hole.lt HKK.out hs.bel) u1 u2 v1 v2 hs.a3)
   obtain ⟨rc, hrc⟩ : ∃ rc, rc = R c := ⟨_, rfl⟩
   rw [← hrc] at HTW
   obtain ⟨pa, hpa⟩ : ∃ pa, pa = partA a c := ⟨_, rfl⟩
   obtain ⟨pb, hpb⟩ : ∃ pb, pb = partA b c := ⟨_, rfl⟩
   rw [← hpa] at HA HTW
   rw [← hpb] at HBB HTW
   have HRCE := Lib.hid hrc
   clear hrc hpa hpb
   go_upto_region 8 with fail
   go_cut [29, 14, 15] from 29 to 51 (fun i v e wx => i = .int .i64 (c : Int) ∧ BxMid (fun b => H b ∨ b = w.heap.size + 2 ∨ b = G) w wr h1 p h2 q rc v e wx)
   case first =>
    have hs0 := HST0.out.dr
    have hs00 := HST0.out
    go_region_held3 (fun W => ((W.cell? ⟨w.heap.size, 0, none⟩ = some (.slice h1.1 h1.2.1 h1.2.2) ∧ W.cell? ⟨w.heap.size, 1, none⟩ = some (.int .i64 p.k) ∧ W.cell? ⟨w.heap.size, 2, none⟩ = some (.slice p.b.1 p.b.2.1 p.b.2.2) ∧ W.cell? ⟨w.heap.size, 3, none⟩ = some (.int .i64 p.bn) ∧ W.cell? ⟨w.heap.size, 4, none⟩ = some (.slice p.s.1 p.s.2.1 p.s.2.2) ∧ W.cell? ⟨w.heap.size, 5, none⟩ = some (.slice p.i.1 p.i.2.1 p.i.2.2) ∧ W.cell? ⟨w.heap.size, 6, none⟩ = some (.slice p.f.1 p.f.2.1 p.f.2.2) ∧ W.cell? ⟨w.heap.size, 7, none⟩ = some (.slice p.c.1 p.c.2.1 p.c.2.2) ∧ W.cell? ⟨w.heap.size, 8, none⟩ = some (.slice p.x.1 p.x.2.1 p.x.2.2)) ∧ (W.cell? ⟨w.heap.size + 1, 0, none⟩ = some (.slice h2.1 h2.2.1 h2.2.2) ∧ W.cell? ⟨w.heap.size + 1, 1, none⟩ = some (.int .i64 q.k) ∧ W.cell? ⟨w.heap.size + 1, 2, none⟩ = some (.slice q.b.1 q.b.2.1 q.b.2.2) ∧ W.cell? ⟨w.heap.size + 1, 3, none⟩ = some (.int .i64 q.bn) ∧ W.cell? ⟨w.heap.size + 1, 4, none⟩ = some (.slice q.s.1 q.s.2.1 q.s.2.2) ∧ W.cell? ⟨w.heap.size + 1, 5, none⟩ = some (.slice q.i.1 q.i.2.1 q.i.2.2) ∧ W.cell? ⟨w.heap.size + 1, 6, none⟩ = some (.slice q.f.1 q.f.2.1 q.f.2.2) ∧ W.cell? ⟨w.heap.size + 1, 7, none⟩ = some (.slice q.c.1 q.c.2.1 q.c.2.2) ∧ W.cell? ⟨w.heap.size + 1, 8, none⟩ = some (.slice q.x.1 q.x.2.1 q.x.2.2))) ∧ BxS w wr h1 p h2 q W)
     (first | (with_reducible assumption) | (with_reducible (refine bxs_s ?_); repeat (first | (with_reducible assumption) | (with_reducible refine BxS.dr ?_) | (with_reducible refine BxS.put ?_ (by first | assumption | omega | (simp; omega)) _) | (with_reducible refine BxS.al ?_ _))))
     (first
      | (go_at_call 44; (with_reducible refine (HA.out _ ?_).mono ?_); exact BxS.self (by repeat (first | (with_reducible assumption) | (with_reducible refine BxS.dr ?_) | (with_reducible refine BxS.al ?_ _))); rintro e w1 ⟨ha1, pa1, rfl, hav1, hb1⟩; have hst1 : BxS w wr h1 p h2 q w1 := BxS.step (by repeat (first | (with_reducible assumption) | (with_reducible refine BxS.dr ?_) | (with_reducible refine BxS.al ?_ _))) hb1; have hat1 : AvAt Ha pa ha1 pa1 w1 := hav1; obtain ⟨hc1, hf1⟩ := bcell2 hb1; have hz1 := hb1.size; have hs1z := hst1.bel.size; (first | (have hsq1 : wr.heap.size < w1.heap.size := Nat.lt_of_lt_of_le (lt_al _ _) hz1) | (have hsq1 : wr.heap.size < w1.heap.size := Nat.lt_of_lt_of_le (lt_dr _ _) hz1) | skip); have HB1 := Lib.hid hb1; clear hb1 hav1)
      | (go_at_call 44; (with_reducible refine (HBB.out _ ?_).mono ?_); exact BxS.self (by repeat (first | (with_reducible assumption) | (with_reducible refine BxS.dr ?_) | (with_reducible refine BxS.al ?_ _))); rintro e w2 ⟨ha2, pa2, rfl, hav2, hb2⟩; have hst2 : BxS w wr h1 p h2 q w2 := BxS.step (by repeat (first | (with_reducible assumption) | (with_reducible refine BxS.dr ?_) | (with_reducible refine BxS.al ?_ _))) hb2; have hat2 : AvAt Hb pb ha2 pa2 w2 := hav2; have hat1' : AvAt Ha pa ha1 pa1 w2 := AvAt.step (by repeat (first | (with_reducible assumption) | (with_reducible refine AvAt.dr ?_) | (with_reducible refine AvAt.al ?_ _))) hb2; obtain ⟨hc2, hf2⟩ := bcell2 hb2; have hz2 := hb2.size; have hs2z := hst2.bel.size; (first | (have hsq2 : w1.heap.size < w2.heap.size := Nat.lt_of_lt_of_le (lt_al _ _) hz2) | (have hsq2 : w1.heap.size < w2.heap.size := Nat.lt_of_lt_of_le (lt_dr _ _) hz2) | (have hsq2 : w1.heap.size ≤ w2.heap.size := hz2) | skip); (first | (have hsr2 : wr.heap.size < w2.heap.size := Nat.lt_of_lt_of_le hsq1 (Nat.le_of_lt hsq2)) | (have hsr2 : wr.heap.size < w2.heap.size := Nat.lt_of_lt_of_le hsq1 hsq2) | skip); have HB2 := Lib.hid hb2; clear hb2 hav2)
      | (go_at_call 9; (with_reducible refine (HTW.out _ _ _ _ _ ?_ ?_ ?_).mono ?_); exact BxS.self (by repeat (first | (with_reducible assumption) | (with_reducible refine BxS.dr ?_) | (with_reducible refine BxS.al ?_ _))); exact AvAt.self (by repeat (first | (with_reducible assumption) | (with_reducible refine AvAt.dr ?_) | (with_reducible refine AvAt.al ?_ _))); exact AvAt.self (by repeat (first | (with_reducible assumption) | (with_reducible refine AvAt.dr ?_) | (with_reducible refine AvAt.al ?_ _))); rintro e w5 ⟨h5, u5, rfl, hav5, hb5⟩; have hst5 : BxS w wr h1 p h2 q w5 := BxS.step (by repeat (first | (with_reducible assumption) | (with_reducible refine BxS.dr ?_) | (with_reducible refine BxS.al ?_ _))) hb5; obtain ⟨hc5, hf5⟩ := bcell2 hb5; have hz5 := hb5.size; have hs5z := hst5.bel.size; (first | (have hsq5 : w2.heap.size < w5.heap.size := Nat.lt_of_lt_of_le (lt_al _ _) hz5) | (have hsq5 : w2.heap.size < w5.heap.size := Nat.lt_of_lt_of_le (lt_dr _ _) hz5) | (have hsq5 : w2.heap.size ≤ w5.heap.size := hz5) | skip); (first | (have hsr5 : wr.heap.size < w5.heap.size := Nat.lt_of_lt_of_le hsr2 hsq5) | skip); (first | (have hsr6 : w1.heap.size < w5.heap.size := Nat.lt_of_lt_of_le hsq2 hsq5) | skip); have HB5 := Lib.hid hb5; have HAV5 := Lib.hid hav5; clear hb5 hav5))
    all_goals
     go_wp2
     go_meet
     first
      | (with_reducible refine ⟨rfl, bxMid_new HAV5.out hst5⟩)
      | (with_reducible refine ⟨rfl, bxMid_old HAV5.out hst5 (ZB.step ?_ HB5.out) ?_ ?_⟩; all_goals (first | (with_reducible exact Nat.le_refl _) | exact hst1.bel.size | exact hst2.bel.size | (repeat (first | (with_reducible exact ZB.new _) | (with_reducible refine ZB.dr ?_) | (with_reducible refine ZB.step ?_ HB2.out) | (with_reducible refine ZB.step ?_ HB1.out)))))
   case rest =>
    obtain ⟨rfl, V, h5, u5, rfl, rfl, hVz, hVb, hav, hst⟩ := hcut
    have HTI2 := Lib.hid (HTI.out.step hst.bel)
    have HAV := Lib.hid hav
    have HVB := Lib.hid hVb
    have hVG : w.heap.size + 3 ≤ V := by omega
    clear hst hav HA HBB HTW HST0 HKK HPA HPB HII HTI hVb
    obtain ⟨w4, hw4⟩ : ∃ w4, w4 = wc := ⟨_, rfl⟩
    subst hw4
    by_cases h0 : rc.1 = 0
    ·have ne : (rc.1 != 0) = false := by simpa using h0
     have hR0 : (R c).1 = 0 := by rw [← HRCE.out]; exact h0
     have HP := Lib.hid (HTI2.out.put HG.out hlt hR0 (h := h5) (u := u5) (by
      rw [← HRCE.out]
      exact AV.sub (fun b _ e => .inl e) (HAV.out.1 h0)))
     obtain ⟨⟨y0, y1, y2, y3, y4, y5, y6, y7, y8⟩, yz⟩ := at9_of HVB.out
     obtain ⟨⟨c0, c1, c2, c3, c4, c5, c6, c7, c8⟩, cz⟩ := HTI2.out.row.at_ c hlt
     clear h0 hR0 HAV HRB
     go_wp2
     go_roundw
     case rel => exact ⟨c + 1, _, _, by omega, by go_num, HP.out⟩
     case measure => simp [intOf]; omega
    ·have ne : (rc.1 != 0) = true := by simpa using h0
     have HE : Hid (r.1 = rc.1) := by
      unfold Hid
      rw [HRCE.out]
      exact HRB.out c hlt (fun j hj => (HTI2.out.ok j hj).1) (by rw [← HRCE.out]; exact h0)
     have HN := Lib.hid h0
     clear h0 HRB
     obtain ⟨⟨y0, y1, y2, y3, y4, y5, y6, y7, y8⟩, yz⟩ := zero_block HTI2.out.a3.res
     go_wp2
     refine bodyPost_ret (v := .tuple #[arrV nilS zeroP, .int .i64 rc.1]) ?_ rfl (twR_err HE.out HN.out (below_set9 HTI2.out.a3.bel (Nat.le_add_right _ 2) _ _ _ _ _ _ _ _ _))
     exact ret_arr2 (fn := Tryz.f22) (p := 8) (u := 9) rfl _ _ (w.heap.size + 2) (by rfl) (set9_block HTI2.out.a3.res _ _ _ _ _ _ _ _ _)
  ·obtain rfl : c = n := by omega
   have hge : ¬ (c : Int) < (c : Int) := by omega
   have HCL := Lib.hid (fun W (hb : Below wr.heap.size wr W) => clSh_now (fun b => H b ∨ b = w.heap.size + 2) (w := W) (h := s) (s := sh) ((HGS.out.lat (Lat.below (bel_both HTI.out.a3.bel hb))).now) HSL.out (fun b e => by
    have h9 := HTI.out.a3.sz
    have h10 := hb.size
    rcases e with e | e
    ·have := HH.out b e; omega
    ·omega))
   have HASL : Hid (ASl (fun b => H b ∨ b = w.heap.size + 2) wr (some ⟨G, 0, none⟩, c, c) ((List.range c).map fun j => (R j).2)) := by
    refine ARow.asl HTI.out.row (fun e => ?_) _ (by simp) (fun i hi => ?_) c
    ·rcases e with e | e
     ·have := HH.out _ e; have := HG.out; omega
     ·have := HG.out; omega
    ·have hi2 : i < c := by simpa using hi
     simp only [List.getElem_map, List.getElem_range]
     exact AV.sub (fun b _ e => by
      rcases e with e | e
      ·exact .inl e
      ·exact .inr (.inl e)) (HTI.out.ok i hi2).2
   have HRR := Lib.hid (HR.out fun j hj => (HTI.out.ok j hj).1)
   have hcl := HCL.out _ (Below.refl _ wr)
   clear HPA HPB HII HR HRB
   go_wp2_with fail
   refine hcl.mono ?_
   rintro e w5 ⟨A5, n5, c5, rfl, hsv, hb5⟩
   have HSV := Lib.hid hsv
   have HB5 := Lib.hid hb5
   have HA5 := Lib.hid (HTI.out.a3.step hb5)
   have HBX := Lib.hid (boxes_any (H := fun b => H b ∨ b = w.heap.size + 2) (HASL.out.step hb5) (by simp; omega) (fun b e => by
    have h9 := HA5.out.sz
    rcases e with e | e
    ·have := HH.out b e; omega
    ·omega))
   unfold BxR at HBX
   clear hsv hb5 hcl HCL
   go_wp2_with fail
   refine HBX.out.mono ?_
   rintro e w6 ⟨x6, rfl, hx6, hb6⟩
   have HA6 := Lib.hid (HA5.out.step hb6)
   obtain ⟨xA, xn, xc⟩ := x6
   have HAV : Hid (AV H (set9 w6 (w.heap.size + 2) (sv (A5, n5, c5)) (.int .i64 6) (sv nilS) (.int .i64 0) (sv nilS) (sv nilS) (sv nilS) (sv nilS) (sv (xA, xn, xc))) (.boxes sh ((List.range c).map fun j => (R j).2)) (A5, n5, c5) (boxesP (xA, xn, xc))) :=
    AV.sub (fun b _ e => .inl e) (AV.lat (Lat.set9 (G := w.heap.size + 2) (.inr rfl) _ _ _ _ _ _ _ _ _) (ASl.av hx6 (HSV.out.lat (Lat.below hb6))))
   clear hx6 hb6
   obtain ⟨⟨y0, y1, y2, y3, y4, y5, y6, y7, y8⟩, yz⟩ := zero_block HA6.out.res
   go_wp2
   refine bodyPost_ret (v := .tuple #[arrV (A5, n5, c5) (boxesP (xA, xn, xc)), .int .i64 0]) ?_ rfl (twR_ok (by rw [HRR.out]) (by rw [HRR.out]; exact HAV.out) (below_set9 HA6.out.bel (Nat.le_add_right _ 2) _ _ _ _ _ _ _ _ _))
   exact ret_arr2 (fn := Tryz.f22) (p := 8) (u := 9) rfl _ _ (w.heap.size + 2) (by rfl) (set9_block HA6.out.res _ _ _ _ _ _ _ _ _)
end Go.Proofs.YtiahegjdkejjpaaGreat
