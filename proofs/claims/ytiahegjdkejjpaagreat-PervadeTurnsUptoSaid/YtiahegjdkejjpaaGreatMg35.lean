/- Merged texts. Plain arrays of tidy numbers; what one and two, and ten, come to: plain law. Conditions: as each theorem says. What fine tells; an array and a plain array in blocks of a call's own. Conditions: as each theorem says. fine and shows of the laws of layer 24. Conditions: as each theorem says. Two plain arrays in blocks of a call's own. Conditions: as each theorem says. The walk of awake of layer 24. No conditions. The memory of the laws of two plain arrays: a variable that holds what a function of their arrays tells. Conditions: as each theorem says. -/
import Derived.Test.YtiahegjdkejjpaaGreatMg34
import Derived.Test.YtiahegjdkejjpaaGreatMg33
import Derived.Test.YtiahegjdkejjpaaGreatMg20
import Derived.Test.YtiahegjdkejjpaaGreatMg32
namespace Go.Proofs.YtiahegjdkejjpaaGreat
open Go Go.RowKit Go.Proofs Fl

abbrev noH : Nat → Prop := fun _ => False
theorem noH_lt (w : World) : ∀ b, noH b → b < w.heap.size := fun _ e => e.elim
theorem okF_tf1 {b : Nat} (h : TF b) : okF b = true := by unfold okF; rw [doneP_tf h]; rfl
theorem tidF_tf1 {b : Nat} (h : TF b) : tidF b = b := by unfold tidF; rw [doneP_tf h]
theorem ok_raw0 {s l : List Nat} (hs : OkSh s l.length) (hl : ∀ x ∈ l, TF x) : OkP 40 (rawP (.nums s l)) := by
  rw [rawP, OkP]
  refine ⟨by decide, .inl rfl, ⟨s, rfl, by rw [List.length_map]; exact hs⟩, okIs_of _ fun i hi => ?_⟩
  rw [List.getElem_map, OkI]
  have h := hl _ (List.getElem_mem (by simpa using hi))
  exact ⟨rfl, fun _ => ⟨okF_tf1 h, h.lt⟩, fun e => absurd e (by decide)⟩
theorem cl_raw0 {s l : List Nat} (hl : ∀ x ∈ l, TF x) : clP (rawP (.nums s l)) = .nums s l := by
  rw [rawP, clP, toNat_of, if_pos rfl, List.map_map]
  congr 1
  refine (List.map_congr_left (g := id) fun x hx => ?_).trans (List.map_id l)
  exact tidF_tf1 (hl x hx)
theorem cntIs_raw0 (l : List Nat) : cntIs (l.map fun x => RI.mk 0 x 0 []) = 0 := by
  induction l with
  | nil => rw [List.map_nil, cntIs]
  | cons x l ih => rw [List.map_cons, cntIs, ih, cntI, cntPs]
theorem cnt_raw0 (s l : List Nat) : cntP (rawP (.nums s l)) = l.length + s.length + 1 := by
  rw [rawP, cntP, cntIs_raw0]
  simp
theorem good_nums {s l : List Nat} (hs : OkSh s l.length) (hl : ∀ x ∈ l, TF x) : GoodA 40 (.nums s l) := by rw [GoodA]; exact ⟨by decide, hs, hl⟩
/-- Of of tidy numbers -/
theorem lawOf_nums {s l : List Nat} (hs : OkSh s l.length) (hl : ∀ x ∈ l, TF x) (hc : l.length ≤ 1000) (h x : Sl) (f : Int) (w : World) (hr : PV noH w (rawP (.nums s l)) h x f) :
    Calls Tryz.prog 10 #[plV h x f] w (AaR noH w (.nums s l)) := by
  have h1 := lawOf_any noH _ h x f w (noH_lt w) (ok_raw0 hs hl) (by rw [cnt_raw0]; have := hs.1; omega) hr
  rwa [cl_raw0 hl] at h1

theorem f1_eq : fi 1 = 4607182418800017408 := by decide +kernel
theorem f2_eq : fi 2 = 4611686018427387904 := by decide +kernel
theorem f10_eq : fi 10 = 4621819117588971520 := by decide +kernel
theorem f11_eq : fi 11 = 4622382067542392832 := by decide +kernel
theorem f12_eq : fi 12 = 4622945017495814144 := by decide +kernel
theorem tf_small {n : Int} (h : n.natAbs ≤ 1000) : TF (fi n) := tf_fi ⟨by omega, by omega⟩
theorem tf1 : TF 4607182418800017408 := f1_eq ▸ tf_small (by decide)
theorem tf2 : TF 4611686018427387904 := f2_eq ▸ tf_small (by decide)
theorem tf10 : TF 4621819117588971520 := f10_eq ▸ tf_small (by decide)
theorem tf11 : TF 4622382067542392832 := f11_eq ▸ tf_small (by decide)
theorem tf12 : TF 4622945017495814144 := f12_eq ▸ tf_small (by decide)
theorem add_small {a b : Int} (ha : a.natAbs ≤ 1000) (hb : b.natAbs ≤ 1000) (hc : (a + b).natAbs ≤ 1000) : oneP pwP 1 (fi a) (fi b) = (fi (a + b), 0) := by
  show doneP (opB .add (fi a) (fi b)) = _
  have e : opB .add (fi a) (fi b) = fi (a + b) := by
    show (Ieee.double.add (fi a) (fi b)).getD 0 = _
    rw [add_fi a b (by omega) (by omega) (by omega)]
    rfl
  rw [e, doneP_tf (tf_small hc)]
theorem add_1_10 : oneP pwP 1 4607182418800017408 4621819117588971520 = (4622382067542392832, 0) := by
  have h := add_small (a := 1) (b := 10) (by decide) (by decide) (by decide)
  rwa [f1_eq, f10_eq, show (1 : Int) + 10 = 11 by decide, f11_eq] at h
theorem add_2_10 : oneP pwP 1 4611686018427387904 4621819117588971520 = (4622945017495814144, 0) := by
  have h := add_small (a := 2) (b := 10) (by decide) (by decide) (by decide)
  rwa [f2_eq, f10_eq, show (2 : Int) + 10 = 12 by decide, f12_eq] at h
/-- the example: one and two, and ten -/
abbrev a12 : PA := .nums [2] [4607182418800017408, 4611686018427387904]
abbrev a10 : PA := .nums [] [4621819117588971520]
abbrev a1112 : PA := .nums [2] [4622382067542392832, 4622945017495814144]
theorem sh2 : OkSh [2] 2 := ⟨by decide, by decide, rfl⟩
theorem sh0 : OkSh [] 1 := ⟨by decide, by decide, rfl⟩
theorem all2 {x y : Nat} (hx : TF x) (hy : TF y) : ∀ z ∈ [x, y], TF z := by
  intro z hz
  simp at hz
  rcases hz with rfl | rfl
  · exact hx
  · exact hy
theorem all1 {x : Nat} (hx : TF x) : ∀ z ∈ [x], TF z := by
  intro z hz
  simp at hz
  rw [hz]
  exact hx
theorem good12 : GoodA 40 a12 := good_nums sh2 (all2 tf1 tf2)
theorem good10 : GoodA 40 a10 := good_nums sh0 (all1 tf10)
theorem good1112 : GoodA 40 a1112 := good_nums sh2 (all2 tf11 tf12)
theorem numsE_two {G : Nat → Nat × Int} {x y : Nat} (h0 : G 0 = (x, 0)) (h1 : G 1 = (y, 0)) : numsE 2 G = (0, [x, y]) := by
  rcases numsE_cases 2 G with ⟨⟨c, hc, hb⟩, _⟩ | ⟨_, h⟩
  · have : c = 0 ∨ c = 1 := by omega
    rcases this with rfl | rfl
    · rw [h0] at hb; exact absurd rfl hb
    · rw [h1] at hb; exact absurd rfl hb
  · rw [h]
    show ((0 : Int), [(G 0).1, (G 1).1]) = _
    rw [h0, h1]
theorem two12 (N : Nat) : twoE (N + 1) 1 a12 a10 = (0, a1112) := by
  rw [twoE_flat (by decide) rfl (by decide)]
  have e : flatE 1 a12 a10 = (0, [4622382067542392832, 4622945017495814144]) := by
    rw [flatE_nums]
    exact numsE_two add_1_10 add_2_10
  unfold flatR
  rw [e]
  rfl
theorem good_box {a : PA} (h : GoodA 30 a) : GoodA 40 (.boxes [] [a]) := by
  rw [GoodA]
  exact ⟨by decide, sh0, goodAs_of _ fun i hi => by obtain rfl : i = 0 := by simpa using hi
                                                    exact GoodA.up (by decide) _ h⟩
theorem good12' : GoodA 30 a12 := by rw [GoodA]; exact ⟨by decide, sh2, all2 tf1 tf2⟩
theorem good1112' : GoodA 30 a1112 := by rw [GoodA]; exact ⟨by decide, sh2, all2 tf11 tf12⟩
theorem two_b12 (N : Nat) : twoE (N + 2) 1 (.boxes [] [a12]) a10 = (0, .boxes [] [a1112]) := by
  rw [twoE_box (by decide) rfl (.inl rfl)]
  have h := bxE_ok (n := 1) (R := fun i => twoE (N + 1) 1 (partA (.boxes [] [a12]) i) (partA a10 i)) [] (fun j hj => by
    obtain rfl : j = 0 := by omega
    show (twoE (N + 1) 1 a12 a10).1 = 0
    rw [two12])
  refine Eq.trans h ?_
  show ((0 : Int), PA.boxes [] [(twoE (N + 1) 1 a12 a10).2]) = _
  rw [two12]
theorem sm_2 (x y : Nat) (s : List Nat) : SmA 1000000 (.nums s [x, y]) := by rw [SmA]; simp
theorem sm_1 (x : Nat) (s : List Nat) : SmA 1000000 (.nums s [x]) := by rw [SmA]; simp
theorem sm_b {a : PA} (h : SmA 1000000 a) (s : List Nat) : SmA 1000000 (.boxes s [a]) := by
  rw [SmA]
  exact ⟨by simp, smAs_of _ fun i hi => by obtain rfl : i = 0 := by simpa using hi
                                           exact h⟩
theorem reads_two {W : World} {B : Nat} {e : TypeId} {x y : Nat} (h : W.heap[B]? = some (.cells #[.float .f64 x, .float .f64 y] e)) : Reads1 W (.slice (some ⟨B, 0, none⟩) 2 2) ([x, y].map (Value.float .f64)) := by
  refine .inr ⟨B, 0, 2, 2, rfl, rfl, fun j hj => ?_⟩
  have hj2 : j < 2 := by simpa using hj
  rw [cell_of_row _ B (0 + j) _ e (0, 0) h]
  match j, hj2 with
  | 0, _ => rfl
  | 1, _ => rfl
end Go.Proofs.YtiahegjdkejjpaaGreat
namespace Go.Proofs.YtiahegjdkejjpaaGreat
open Go Go.RowKit Go.Proofs Fl

/-- what fine tells: yes only of a good plain array that is not a great one -/
def FineR (t : RP) (w : World) (e : Ending) (w' : World) : Prop := ∃ b : Bool, e = .returned (.bool b) ∧ (b = true → OkP 40 t ∧ cntP t ≤ 1500) ∧ Below w.heap.size w w'
/-- an array and a plain array still lie in their blocks, and nothing older was written -/
structure LdQ (w0 : World) (G : Nat) (h : Sl) (p : V8) (h1 x1 : Sl) (f : Int) (W : World) : Prop where
  one : At9 W G 0 h p
  two : At3 W (G + 1) 0 h1 x1 f
  bel : Below w0.heap.size w0 W
theorem LdQ.new (w : World) (h : Sl) (p : V8) (h1 x1 : Sl) (f : Int) : LdQ ((w.alloc (arrO h p)).alloc (plO h1 x1 f)) w.heap.size h p h1 x1 f ((w.alloc (arrO h p)).alloc (plO h1 x1 f)) := by
  have g := at3_box (w.alloc (arrO h p)) h1 x1 f
  have e : (w.alloc (arrO h p)).heap.size = w.heap.size + 1 := by simp
  rw [e] at g
  exact ⟨(at9_new w h p).below (bel1 _ _), g, Below.refl _ _⟩
theorem LdQ.step {w0 W W' : World} {G : Nat} {h : Sl} {p : V8} {h1 x1 : Sl} {f : Int} (g : LdQ w0 G h p h1 x1 f W) (hb : Below W.heap.size W W') : LdQ w0 G h p h1 x1 f W' :=
  ⟨g.one.below hb, g.two.of fun j => hb.cell (p := ⟨G + 1, j, none⟩) g.two.lt, bel_both g.bel hb⟩
theorem LdQ.dr {w0 W : World} {G : Nat} {h : Sl} {p : V8} {h1 x1 : Sl} {f : Int} (g : LdQ w0 G h p h1 x1 f W) : LdQ w0 G h p h1 x1 f W.drew := g.step (Below.refl _ W).drew
theorem LdQ.self {w0 W : World} {G : Nat} {h : Sl} {p : V8} {h1 x1 : Sl} {f : Int} (g : LdQ w0 G h p h1 x1 f W) : LdQ w0 G h p h1 x1 f W := g
theorem ldq_s {w0 W : World} {G : Nat} {h : Sl} {p : V8} {h1 x1 : Sl} {f : Int} (g : LdQ w0 G h p h1 x1 f W) : (W.cell? ⟨G, 0, none⟩ = some (.slice h.1 h.2.1 h.2.2) ∧ W.cell? ⟨G, 1, none⟩ = some (.int .i64 p.k) ∧ W.cell? ⟨G, 2, none⟩ = some (.slice p.b.1 p.b.2.1 p.b.2.2) ∧ W.cell? ⟨G, 3, none⟩ = some (.int .i64 p.bn) ∧
    W.cell? ⟨G, 4, none⟩ = some (.slice p.s.1 p.s.2.1 p.s.2.2) ∧ W.cell? ⟨G, 5, none⟩ = some (.slice p.i.1 p.i.2.1 p.i.2.2) ∧ W.cell? ⟨G, 6, none⟩ = some (.slice p.f.1 p.f.2.1 p.f.2.2) ∧ W.cell? ⟨G, 7, none⟩ = some (.slice p.c.1 p.c.2.1 p.c.2.2) ∧ W.cell? ⟨G, 8, none⟩ = some (.slice p.x.1 p.x.2.1 p.x.2.2)) ∧
    (W.cell? ⟨G + 1, 0, none⟩ = some (.slice h1.1 h1.2.1 h1.2.2) ∧ W.cell? ⟨G + 1, 1, none⟩ = some (.slice x1.1 x1.2.1 x1.2.2) ∧ W.cell? ⟨G + 1, 2, none⟩ = some (.int .i64 f)) ∧ LdQ w0 G h p h1 x1 f W := ⟨g.one.c, at3_c g.two, g⟩
end Go.Proofs.YtiahegjdkejjpaaGreat
namespace Go.Proofs.YtiahegjdkejjpaaGreat
open Go Go.RowKit Go.Proofs Fl

set_option maxRecDepth 100000 in
set_option maxHeartbeats 1000000 in
theorem fine24_any (t : RP) (h x : Sl) (f : Int) (w : World) (hfit : FitP t) (hM : cntP t ≤ 1048576) (hr : PV (fun _ => False) w t h x f) :
    Calls Tryz.prog 6 #[plV h x f] w (FineR t w) := by
  have HB0 := Lib.hid (bel1 w (plO h x f))
  have HX0 := Lib.hid (at3_box w h x f)
  have HCN := Lib.hid (cnt_walk 3000 (cntP t) t h x f (w.alloc (plO h x f)) (Nat.le_refl _) hM (hr.step HB0.out))
  have HCK := Lib.hid (fun W (hb : Below w.heap.size w W) => check_any t h x f W hfit hM (hr.step hb))
  clear hfit hM hr
  go_enter Tryz.func6, Tryz.ntmps6
  go_wp2_with fail
  refine HCN.out.mono ?_
  rintro e w1 ⟨⟨n, rfl, hn⟩, hb⟩
  have HN := Lib.hid hn
  have HB1 := Lib.hid (bel_both HB0.out hb)
  have HX1 := Lib.hid (HX0.out.of fun j => hb.cell (p := ⟨w.heap.size, j, none⟩) HX0.out.lt)
  clear hb hn
  obtain ⟨c0, c1, c2⟩ := at3_c HX1.out
  by_cases h1 : (n : Int) ≤ 1500
  · have h1' : decide ((n : Int) ≤ 1500) = true := decide_eq_true h1
    by_cases h2 : (h.2.1 : Int) ≤ 8
    · have h2' : decide ((h.2.1 : Int) ≤ 8) = true := decide_eq_true h2
      have h2n : h.2.1 ≤ 8 := by omega
      have HN1 : Hid (cntP t ≤ 1500) := by
        have := HN.out.2.2 (by omega)
        unfold Hid; omega
      clear h1
      go_wp2_with fail
      refine (HCK.out _ HB1.out).mono ?_
      rintro e w2 ⟨⟨z, rfl, hz⟩, hb⟩
      have HB2 := Lib.hid (bel_both HB1.out hb)
      have HZ := Lib.hid hz
      clear hb hz c0 c1 c2
      go_wp2
      go_ret
      exact ⟨_, rfl, fun e => ⟨HZ.out (by simpa using e), HN1.out⟩, HB2.out⟩
    · have h2' : decide ((h.2.1 : Int) ≤ 8) = false := decide_eq_false h2
      have h2n : ¬ h.2.1 ≤ 8 := by omega
      clear h1
      go_wp2
      go_ret
      exact ⟨false, rfl, (fun e => by cases e), HB1.out⟩
  · have h1' : decide ((n : Int) ≤ 1500) = false := decide_eq_false h1
    go_wp2
    go_ret
    exact ⟨false, rfl, (fun e => by cases e), HB1.out⟩

set_option maxRecDepth 100000 in
set_option maxHeartbeats 1000000 in
theorem shows24_ok {H H' : Nat → Prop} {a : PA} {h : Sl} {p : V8} {h1 x1 : Sl} {f : Int} {w : World} (hH : ∀ b, H b → b < w.heap.size) (hg : GoodA 40 a) (hs : SmA 1000000 a) (hav : AV H w a h p) (hpv : PV H' w (rawP a) h1 x1 f) :
    Calls Tryz.prog 13 #[arrV h p, .int .i64 0, plV h1 x1 f, .int .i64 0] w fun e w' => e = .returned (.bool true) ∧ Below w.heap.size w w' := by
  obtain ⟨w0, hw0⟩ : ∃ w0, w0 = (w.alloc (arrO h p)).alloc (plO h1 x1 f) := ⟨_, rfl⟩
  have HW0 := Lib.hid hw0
  have HS0 : Hid (LdQ w0 w.heap.size h p h1 x1 f w0) := by rw [hw0]; exact LdQ.new w h p h1 x1 f
  have HB0 : Hid (Below w.heap.size w w0) := by unfold Hid; rw [hw0]; exact bel2 _ _ _
  have HGD := Lib.hid (fun W (hW : LdQ w0 w.heap.size h p h1 x1 f W) => vgood_any (AV.step hav (bel_both HB0.out hW.bel)) (fun b e => by have := hH b e; have := hW.bel.size; have := HB0.out.size; omega) hg hs)
  have HPL := Lib.hid (fun W (hW : LdQ w0 w.heap.size h p h1 x1 f W) => vplain_any 40 H a h p W (fun b e => by have := hH b e; have := hW.bel.size; have := HB0.out.size; omega) hg hs (AV.step hav (bel_both HB0.out hW.bel)))
  unfold PlR at HPL
  have hsame : SameC (rawP a) := rsame_raw 40 hg hs
  have HSM := Lib.hid (fun W (hW : LdQ w0 w.heap.size h p h1 x1 f W) (h2 x2 : Sl) (f2 : Int) (hp2 : PV H W (rawP a) h2 x2 f2) => hsame H H' h2 x2 h1 x1 f2 f W hp2 (hpv.step (bel_both HB0.out hW.bel)))
  clear hH hg hs hav hpv hsame hw0
  generalize rawP a = t at HPL HSM
  generalize (a.fill : Int) = fl at HPL
  go_enter Tryz.func13, Tryz.ntmps13
  go_wp2_with fail
  rw [← HW0.out]
  have hs0 := HS0.out.dr
  have hs00 := HS0.out
  go_region_held3 (fun W => (W.cell? ⟨w.heap.size, 0, none⟩ = some (.slice h.1 h.2.1 h.2.2) ∧ W.cell? ⟨w.heap.size, 1, none⟩ = some (.int .i64 p.k) ∧ W.cell? ⟨w.heap.size, 2, none⟩ = some (.slice p.b.1 p.b.2.1 p.b.2.2) ∧ W.cell? ⟨w.heap.size, 3, none⟩ = some (.int .i64 p.bn) ∧ W.cell? ⟨w.heap.size, 4, none⟩ = some (.slice p.s.1 p.s.2.1 p.s.2.2) ∧ W.cell? ⟨w.heap.size, 5, none⟩ = some (.slice p.i.1 p.i.2.1 p.i.2.2) ∧ W.cell? ⟨w.heap.size, 6, none⟩ = some (.slice p.f.1 p.f.2.1 p.f.2.2) ∧ W.cell? ⟨w.heap.size, 7, none⟩ = some (.slice p.c.1 p.c.2.1 p.c.2.2) ∧ W.cell? ⟨w.heap.size, 8, none⟩ = some (.slice p.x.1 p.x.2.1 p.x.2.2)) ∧ (W.cell? ⟨w.heap.size + 1, 0, none⟩ = some (.slice h1.1 h1.2.1 h1.2.2) ∧ W.cell? ⟨w.heap.size + 1, 1, none⟩ = some (.slice x1.1 x1.2.1 x1.2.2) ∧ W.cell? ⟨w.heap.size + 1, 2, none⟩ = some (.int .i64 f)) ∧ LdQ w0 w.heap.size h p h1 x1 f W)
    (first | (with_reducible assumption) | (with_reducible (refine ldq_s ?_); repeat (first | (with_reducible assumption) | (with_reducible refine LdQ.dr ?_))))
    (first
      | (go_at_call 34; (with_reducible refine (HGD.out _ ?_).mono ?_); exact LdQ.self (by repeat (first | (with_reducible assumption) | (with_reducible refine LdQ.dr ?_))); rintro e w1 ⟨rfl, hb1⟩; have hst1 : LdQ w0 w.heap.size h p h1 x1 f w1 := LdQ.step (by repeat (first | (with_reducible assumption) | (with_reducible refine LdQ.dr ?_))) hb1; clear hb1)
      | (go_at_call 36; (with_reducible refine (HPL.out _ ?_).mono ?_); exact LdQ.self (by repeat (first | (with_reducible assumption) | (with_reducible refine LdQ.dr ?_))); rintro e w2 ⟨h2, x2, rfl, hpv2, hb2⟩; have hst2 : LdQ w0 w.heap.size h p h1 x1 f w2 := LdQ.step (by repeat (first | (with_reducible assumption) | (with_reducible refine LdQ.dr ?_))) hb2; have HSC := Lib.hid (HSM.out w2 hst2 h2 x2 fl hpv2); clear hb2 hpv2)
      | (go_at_call 35; (with_reducible refine HSC.out.mono ?_); rintro e w3 ⟨rfl, hb3⟩; have hst3 : LdQ w0 w.heap.size h p h1 x1 f w3 := LdQ.step hst2 hb3; clear hb3))
  all_goals
    go_wp2
    go_ret
    exact ⟨rfl, bel_both HB0.out hst3.bel⟩
end Go.Proofs.YtiahegjdkejjpaaGreat
namespace Go.Proofs.YtiahegjdkejjpaaGreat
open Go Go.RowKit Go.Proofs Fl

theorem At3.belowP {w w' : World} {b o : Nat} {h x : Sl} {f : Int} (g : At3 w b o h x f) (hb : Below w.heap.size w w') : At3 w' b o h x f := At3.lat (H := fun _ => False) g (fun e => e) (Lat.below hb)
/-- two boxes that hold plain arrays -/
structure P2 (w W : World) (h1 x1 : Sl) (f1 : Int) (h2 x2 : Sl) (f2 : Int) : Prop where
  one : At3 W w.heap.size 0 h1 x1 f1
  two : At3 W (w.heap.size + 1) 0 h2 x2 f2
  bel : Below w.heap.size w W
theorem P2.step {w W W' : World} {h1 x1 h2 x2 : Sl} {f1 f2 : Int} (h : P2 w W h1 x1 f1 h2 x2 f2) (hb : Below W.heap.size W W') : P2 w W' h1 x1 f1 h2 x2 f2 := ⟨At3.belowP h.one hb, At3.belowP h.two hb, bel_both h.bel hb⟩
theorem P2.new (w : World) (h1 x1 : Sl) (f1 : Int) (h2 x2 : Sl) (f2 : Int) : P2 w ((w.alloc (plO h1 x1 f1)).alloc (plO h2 x2 f2)) h1 x1 f1 h2 x2 f2 := by
  have h := at3_box (w.alloc (plO h1 x1 f1)) h2 x2 f2
  have e : (w.alloc (plO h1 x1 f1)).heap.size = w.heap.size + 1 := by simp
  rw [e] at h
  exact ⟨At3.belowP (at3_box w h1 x1 f1) (bel1 _ _), h, bel2 w _ _⟩
theorem P2.more {w W W' : World} {h1 x1 h2 x2 : Sl} {f1 f2 : Int} (g : P2 w W h1 x1 f1 h2 x2 f2) (hb : Below (w.heap.size + 2) W W') : P2 w W' h1 x1 f1 h2 x2 f2 :=
  ⟨g.one.of fun j => hb.cell (p := ⟨w.heap.size, j, none⟩) (by show w.heap.size < _; omega), g.two.of fun j => hb.cell (p := ⟨w.heap.size + 1, j, none⟩) (by show w.heap.size + 1 < _; omega), g.bel.trans (hb.mono (by omega))⟩
theorem P2.dr {w W : World} {h1 x1 h2 x2 : Sl} {f1 f2 : Int} (g : P2 w W h1 x1 f1 h2 x2 f2) : P2 w W.drew h1 x1 f1 h2 x2 f2 := g.step (Below.refl _ W).drew
theorem P2.self {w W : World} {h1 x1 h2 x2 : Sl} {f1 f2 : Int} (g : P2 w W h1 x1 f1 h2 x2 f2) : P2 w W h1 x1 f1 h2 x2 f2 := g
theorem P2.sz {w W : World} {h1 x1 h2 x2 : Sl} {f1 f2 : Int} (g : P2 w W h1 x1 f1 h2 x2 f2) : w.heap.size + 2 ≤ W.heap.size := At3.lt g.two
theorem p2_s {w W : World} {h1 x1 h2 x2 : Sl} {f1 f2 : Int} (g : P2 w W h1 x1 f1 h2 x2 f2) : ((W.cell? ⟨w.heap.size, 0, none⟩ = some (.slice h1.1 h1.2.1 h1.2.2) ∧ W.cell? ⟨w.heap.size, 1, none⟩ = some (.slice x1.1 x1.2.1 x1.2.2) ∧ W.cell? ⟨w.heap.size, 2, none⟩ = some (.int .i64 f1)) ∧
    (W.cell? ⟨w.heap.size + 1, 0, none⟩ = some (.slice h2.1 h2.2.1 h2.2.2) ∧ W.cell? ⟨w.heap.size + 1, 1, none⟩ = some (.slice x2.1 x2.2.1 x2.2.2) ∧ W.cell? ⟨w.heap.size + 1, 2, none⟩ = some (.int .i64 f2))) ∧ P2 w W h1 x1 f1 h2 x2 f2 := ⟨⟨at3_c g.one, at3_c g.two⟩, g⟩
end Go.Proofs.YtiahegjdkejjpaaGreat
namespace Go.Proofs.YtiahegjdkejjpaaGreat
open Go Go.RowKit Go.Proofs Fl

/-- a box that holds a sum -/
theorem pv_boxed {W : World} {a : PA} {h x : Sl} {f : Int} (hp : PV noH W (rawP a) h x f) :
    PV noH ((W.alloc (plO h x f)).alloc (itO 2 0 0 (some ⟨W.heap.size, 0, none⟩, 1, 1))) (rawP (.boxes [] [a])) nilS (some ⟨W.heap.size + 1, 0, none⟩, 1, 1) 2 := by
  rw [rawP, rawBs, rawBs]
  refine pv_of (fun _ _ _ => .inl ⟨none, 0, rfl, rfl⟩) rfl fun i hi => ?_
  obtain rfl : i = 0 := by simpa using hi
  refine ⟨W.heap.size + 1, 0, 2, 0, 0, (some ⟨W.heap.size, 0, none⟩, 1, 1), rfl, fun e => e, ?_, ?_⟩
  · exact iv_box (fun e => e) (hp.step (bel2 _ _ _)) (At3.belowP (at3_box W h x f) (bel1 _ _))
  · have h9 := at4_box (W.alloc (plO h x f)) 2 0 0 (some ⟨W.heap.size, 0, none⟩, 1, 1)
    rw [show (W.alloc (plO h x f)).heap.size = W.heap.size + 1 by simp] at h9
    exact h9

theorem two_12 {W : World} {h1 h2 : Sl} {p q : V8} (g1 : AV noH W a12 h1 p) (g2 : AV noH W a10 h2 q) : Calls Tryz.prog 9 #[.int .i64 1, arrV h1 p, arrV h2 q] W (AvR noH W a1112) := by
  refine (ptwo_any 1 noH noH noH 1 a12 a10 40 40 h1 h2 p q W (noH_lt _) (noH_lt _) (noH_lt _) good12 good10 (sm_2 _ _ _) (sm_1 _ _) (by decide) g1 g2).mono ?_
  rintro e w' g
  rw [two12 0] at g
  rcases g with ⟨_, h, u, rfl, ha, hb⟩ | ⟨h, _⟩
  · exact ⟨h, u, rfl, ha, hb⟩
  · exact absurd rfl h
theorem two_b {W : World} {h1 h2 : Sl} {p q : V8} (g1 : AV noH W (.boxes [] [a12]) h1 p) (g2 : AV noH W a10 h2 q) : Calls Tryz.prog 9 #[.int .i64 1, arrV h1 p, arrV h2 q] W (AvR noH W (.boxes [] [a1112])) := by
  refine (ptwo_any 2 noH noH noH 1 (.boxes [] [a12]) a10 40 40 h1 h2 p q W (noH_lt _) (noH_lt _) (noH_lt _) (good_box good12') good10 (sm_b (sm_2 _ _ _) _) (sm_1 _ _) (by simp [depA, depAs]) g1 g2).mono ?_
  rintro e w' g
  rw [two_b12 0] at g
  rcases g with ⟨_, h, u, rfl, ha, hb⟩ | ⟨h, _⟩
  · exact ⟨h, u, rfl, ha, hb⟩
  · exact absurd rfl h

set_option maxRecDepth 100000 in
set_option maxHeartbeats 2000000 in
theorem awake24_any (w : World) : Calls Tryz.prog 8 #[] w fun e w' => e = .returned (.bool true) ∧ Below w.heap.size w w' := by
  go_enter Tryz.func8, Tryz.ntmps8
  have HN1 := Lib.hid (rnums_any _ _ noH (w.alloc (.cells #[.float .f64 4607182418800017408, .float .f64 4611686018427387904] 50)) (noH_lt _) (reads_two (heap_alloc_new w (.cells #[.float .f64 4607182418800017408, .float .f64 4611686018427387904] 50))) (by simp))
  have HB0 := Lib.hid (bel1 w (.cells #[.float .f64 4607182418800017408, .float .f64 4611686018427387904] 50))
  unfold PlR at HN1
  go_wp2_with fail
  refine HN1.out.mono ?_
  rintro e w1 ⟨h1, x1, rfl, hp1, hb⟩
  have HB1 := Lib.hid (bel_both (bel_both HB0.out hb) (bel1 w1 (plO h1 x1 0)))
  have HP1 := Lib.hid (hp1.step (bel1 w1 (plO h1 x1 0)))
  have HV1 := Lib.hid (at3_box w1 h1 x1 0)
  clear hb hp1 HN1 HB0
  go_wp2_with fail
  refine (lawOf_nums sh2 (all2 tf1 tf2) (by decide) h1 x1 0 _ HP1.out).mono ?_
  rintro e w2 ⟨h2, p2, rfl, ha2, hb⟩
  have HB2 := Lib.hid hb
  have HA2 := Lib.hid ha2
  clear hb ha2
  go_wp2_with fail
  refine (rnum_any 4621819117588971520 noH _ (noH_lt _)).mono ?_
  rintro e w3 ⟨h3, x3, rfl, hp3, hb⟩
  have HB3 := Lib.hid hb
  have HP3 := Lib.hid hp3
  clear hb hp3
  go_wp2_with fail
  refine (lawOf_nums sh0 (all1 tf10) (by decide) h3 x3 0 _ HP3.out).mono ?_
  rintro e w4 ⟨h4, p4, rfl, ha4, hb⟩
  have HB4 := Lib.hid (bel_both HB3.out hb)
  have HA4 := Lib.hid ha4
  clear hb ha4 HB3 HP3
  go_wp2_with fail
  refine (two_12 (AV.step HA2.out HB4.out) HA4.out).mono ?_
  rintro e w5 ⟨h5, u5, rfl, ha5, hb⟩
  have HB5 := Lib.hid (bel_both (bel_both HB2.out (bel_both HB4.out hb)) (bel1 w5 (arrO h5 u5)))
  have HA5 := Lib.hid (AV.step ha5 (bel1 w5 (arrO h5 u5)))
  have HV5 := Lib.hid (at9_new w5 h5 u5)
  obtain ⟨c0, c1, c2⟩ := at3_c (HV1.out.belowP HB5.out)
  have HP5 := Lib.hid (HP1.out.step HB5.out)
  clear hb ha5 HB2 HB4 HA2 HA4 HV1 HP1
  go_wp2_with fail
  refine (lawOf_nums sh2 (all2 tf1 tf2) (by decide) h1 x1 0 _ HP5.out).mono ?_
  rintro e w6 ⟨h6, p6, rfl, ha6, hb⟩
  have HB6 := Lib.hid hb
  have HA6 := Lib.hid ha6
  clear hb ha6 HP5 c0 c1 c2
  go_wp2_with fail
  refine (vbx_any HA6.out (noH_lt _)).mono ?_
  rintro e w7 ⟨h7, p7, rfl, ha7, hb⟩
  have HB7 := Lib.hid (bel_both HB6.out hb)
  have HA7 := Lib.hid ha7
  clear hb ha7 HA6 HB6
  go_wp2_with fail
  refine (rnum_any 4621819117588971520 noH _ (noH_lt _)).mono ?_
  rintro e w8 ⟨h8, x8, rfl, hp8, hb⟩
  have HB8 := Lib.hid hb
  have HP8 := Lib.hid hp8
  clear hb hp8
  go_wp2_with fail
  refine (lawOf_nums sh0 (all1 tf10) (by decide) h8 x8 0 _ HP8.out).mono ?_
  rintro e w9 ⟨h9, p9, rfl, ha9, hb⟩
  have HB9 := Lib.hid (bel_both HB8.out hb)
  have HA9 := Lib.hid ha9
  clear hb ha9 HB8 HP8
  go_wp2_with fail
  refine (two_b (AV.step HA7.out HB9.out) HA9.out).mono ?_
  rintro e w10 ⟨h10, u10, rfl, ha10, hb⟩
  obtain ⟨F, hF⟩ : ∃ F : Obj, F = .cells #[.float .f64 4622382067542392832, .float .f64 4622945017495814144] 50 := ⟨_, rfl⟩
  have HB10 := Lib.hid (bel_both (bel_both HB7.out (bel_both HB9.out hb)) (bel2 w10 (arrO h10 u10) F))
  have HA10 := Lib.hid (AV.step ha10 (bel2 w10 (arrO h10 u10) F))
  have HV10 := Lib.hid ((at9_new w10 h10 u10).below (bel1 _ F))
  have hf := heap_alloc_new (w10.alloc (arrO h10 u10)) F
  rw [show (w10.alloc (arrO h10 u10)).heap.size = w10.heap.size + 1 by simp] at hf
  have HFB := Lib.hid hf
  have HF := Lib.hid hF
  clear hb ha10 HB7 HB9 HA7 HA9 hf hF
  rw [HF.out] at HB10 HA10 HV10 HFB
  have HN11 := Lib.hid (rnums_any _ _ noH _ (noH_lt _) (reads_two HFB.out) (by simp))
  unfold PlR at HN11
  go_wp2_with fail
  refine HN11.out.mono ?_
  rintro e w11 ⟨h11, x11, rfl, hp11, hb⟩
  have HB11 := Lib.hid (bel_both hb (bel1 w11 (plO h11 x11 0)))
  have HB12 := Lib.hid (bel_both HB10.out HB11.out)
  have HP11 := Lib.hid (hp11.step (bel1 w11 (plO h11 x11 0)))
  have HV11 := Lib.hid (at3_box w11 h11 x11 0)
  have HA11 := Lib.hid (AV.step HA10.out HB11.out)
  have HV12 := Lib.hid (HV10.out.below HB11.out)
  have HA5' := Lib.hid (AV.step HA5.out HB12.out)
  have HV5' := Lib.hid (HV5.out.below HB12.out)
  have HBE := Lib.hid (bel_both HB1.out (bel_both HB5.out HB12.out))
  obtain ⟨c0, c1, c2, c3, c4, c5, c6, c7, c8⟩ := HV5'.out.c
  obtain ⟨d0, d1, d2⟩ := at3_c HV11.out
  clear hb hp11 HN11 HB10 HB11 HB12 HA10 HV10 HA5 HV5 HB1 HB5 HFB HF
  go_wp2_with fail
  refine (shows24_ok (noH_lt _) good1112 (sm_2 _ _ _) HA5'.out HP11.out).mono ?_
  rintro e w12 ⟨rfl, hb⟩
  have HB13 := Lib.hid hb
  have HPB := Lib.hid (pv_boxed (HP11.out.step hb))
  have HA13 := Lib.hid (AV.step HA11.out (bel_both hb (bel2 w12 (plO h11 x11 0) (itO 2 0 0 (some ⟨w12.heap.size, 0, none⟩, 1, 1)))))
  have HBF := Lib.hid (bel_both HBE.out (bel_both hb (bel2 w12 (plO h11 x11 0) (itO 2 0 0 (some ⟨w12.heap.size, 0, none⟩, 1, 1)))))
  have hv := HV12.out.below hb
  have hd := HV11.out.belowP hb
  clear hb c0 c1 c2 c3 c4 c5 c6 c7 c8 d0 d1 d2
  obtain ⟨c0, c1, c2, c3, c4, c5, c6, c7, c8⟩ := hv.c
  obtain ⟨d0, d1, d2⟩ := at3_c hd
  clear hv hd
  have hst := fun md => st_item (w12.alloc (plO h11 x11 0)) 2 0 0 0 (.slice none 0 0) 53 md
  go_wp2_with fail
  refine (shows24_ok (noH_lt _) (good_box good1112') (sm_b (sm_2 _ _ _) _) HA13.out HPB.out).mono ?_
  rintro e w13 ⟨rfl, hb⟩
  have HBG := Lib.hid (bel_both HBF.out hb)
  clear hb
  go_wp2
  go_ret
  exact ⟨rfl, HBG.out⟩
end Go.Proofs.YtiahegjdkejjpaaGreat
namespace Go.Proofs.YtiahegjdkejjpaaGreat
open Go Go.RowKit Go.Proofs Fl

/-- the memory of a statement of the law: the arguments' boxes, and what was there when it began -/
structure LwS (w wr : World) (h1 x1 : Sl) (f1 : Int) (h2 x2 : Sl) (f2 : Int) (W : World) : Prop where
  p2 : P2 w W h1 x1 f1 h2 x2 f2
  bel : Below wr.heap.size wr W
  lo : w.heap.size + 2 ≤ wr.heap.size
theorem LwS.step {w wr W W' : World} {h1 x1 h2 x2 : Sl} {f1 f2 : Int} (g : LwS w wr h1 x1 f1 h2 x2 f2 W) (hb : Below W.heap.size W W') : LwS w wr h1 x1 f1 h2 x2 f2 W' := ⟨g.p2.step hb, bel_both g.bel hb, g.lo⟩
theorem LwS.put {w wr W : World} {h1 x1 h2 x2 : Sl} {f1 f2 : Int} (g : LwS w wr h1 x1 f1 h2 x2 f2 W) {b j : Nat} (hb : wr.heap.size ≤ b) (u : Value) : LwS w wr h1 x1 f1 h2 x2 f2 (W.setCell ⟨b, j, none⟩ u) := ⟨g.p2.more ((Below.refl _ W).setCell (by show _ ≤ b; have := g.lo; omega) u), g.bel.setCell (by show _ ≤ b; exact hb) u, g.lo⟩
theorem LwS.dr {w wr W : World} {h1 x1 h2 x2 : Sl} {f1 f2 : Int} (g : LwS w wr h1 x1 f1 h2 x2 f2 W) : LwS w wr h1 x1 f1 h2 x2 f2 W.drew := g.step (Below.refl _ W).drew
theorem LwS.al {w wr W : World} {h1 x1 h2 x2 : Sl} {f1 f2 : Int} (g : LwS w wr h1 x1 f1 h2 x2 f2 W) (o : Obj) : LwS w wr h1 x1 f1 h2 x2 f2 (W.alloc o) := g.step (bel1 W o)
theorem LwS.self {w wr W : World} {h1 x1 h2 x2 : Sl} {f1 f2 : Int} (g : LwS w wr h1 x1 f1 h2 x2 f2 W) : LwS w wr h1 x1 f1 h2 x2 f2 W := g
theorem lws_s {w wr W : World} {h1 x1 h2 x2 : Sl} {f1 f2 : Int} (g : LwS w wr h1 x1 f1 h2 x2 f2 W) : ((W.cell? ⟨w.heap.size, 0, none⟩ = some (.slice h1.1 h1.2.1 h1.2.2) ∧ W.cell? ⟨w.heap.size, 1, none⟩ = some (.slice x1.1 x1.2.1 x1.2.2) ∧ W.cell? ⟨w.heap.size, 2, none⟩ = some (.int .i64 f1)) ∧
    (W.cell? ⟨w.heap.size + 1, 0, none⟩ = some (.slice h2.1 h2.2.1 h2.2.2) ∧ W.cell? ⟨w.heap.size + 1, 1, none⟩ = some (.slice x2.1 x2.2.1 x2.2.2) ∧ W.cell? ⟨w.heap.size + 1, 2, none⟩ = some (.int .i64 f2))) ∧ LwS w wr h1 x1 f1 h2 x2 f2 W := ⟨⟨at3_c g.p2.one, at3_c g.p2.two⟩, g⟩
/-- behind the statement: a new variable holds what was told -/
def LwMid (w wr : World) (h1 x1 : Sl) (f1 : Int) (h2 x2 : Sl) (f2 : Int) (r : Int × PA) (v e : Value) (wx : World) : Prop :=
  ∃ (V : Nat) (h : Sl) (u : V8), v = .pointer (some ⟨V, 0, none⟩) ∧ e = .int .i64 r.1 ∧ wr.heap.size ≤ V ∧ wx.heap[V]? = some (arrO h u) ∧ AvIf (fun b => b = V) r h u wx ∧ LwS w wr h1 x1 f1 h2 x2 f2 wx
/-- the blocks that were made from a world to another -/
abbrev Fresh (wr W : World) : Nat → Prop := fun b => wr.heap.size ≤ b ∧ b < W.heap.size
theorem lwMid_new {w wr W5 w5 : World} {h1 x1 h2 x2 : Sl} {f1 f2 : Int} {r : Int × PA} {h : Sl} {u : V8} (hav : AvIf (Fresh wr W5) r h u w5) (hst : LwS w wr h1 x1 f1 h2 x2 f2 w5) :
    LwMid w wr h1 x1 f1 h2 x2 f2 r (.pointer (some ⟨w5.heap.size, 0, none⟩)) (.int .i64 r.1) (w5.alloc (arrO h u)) :=
  ⟨w5.heap.size, h, u, rfl, rfl, hst.bel.size, heap_alloc_new w5 _, fun h0 => (AV.sub (fun b hb e => by omega) (hav h0)).step (bel1 w5 _), hst.al _⟩
theorem lwMid_old {w wr W5 w5 : World} {h1 x1 h2 x2 : Sl} {f1 f2 : Int} {r : Int × PA} {h : Sl} {u : V8} {Z : Nat} (hav : AvIf (Fresh wr W5) r h u w5) (hst : LwS w wr h1 x1 f1 h2 x2 f2 w5) (hz : ZB Z w5) (h5 : ZB Z W5) (hZ : wr.heap.size ≤ Z) :
    LwMid w wr h1 x1 f1 h2 x2 f2 r (.pointer (some ⟨Z, 0, none⟩)) (.int .i64 r.1) (set9 w5 Z (sv h) (.int .i64 u.k) (sv u.b) (.int .i64 u.bn) (sv u.s) (sv u.i) (sv u.f) (sv u.c) (sv u.x)) := by
  have hzw := lt_blk h5
  have hwr := hst.lo
  refine ⟨Z, h, u, rfl, rfl, hZ, set9_block hz _ _ _ _ _ _ _ _ _, fun h0 => AV.lat (Lat.set9 (H := fun b => b = Z) (G := Z) rfl _ _ _ _ _ _ _ _ _) (AV.sub (fun b hb e => ?_) (hav h0)), ⟨hst.p2.more (below_set9 (Below.refl _ w5) (by omega) _ _ _ _ _ _ _ _ _), below_set9 hst.bel hZ _ _ _ _ _ _ _ _ _, hwr⟩⟩
  exact ⟨by omega, by omega⟩
/-- what the test of the law tells: where it goes on, both are good and no great ones -/
def TsMid (t1 t2 : RP) (w : World) (h1 x1 : Sl) (f1 : Int) (h2 x2 : Sl) (f2 : Int) (v : Value) (wx : World) : Prop :=
  ∃ b : Bool, v = .bool b ∧ (b = false → (OkP 40 t1 ∧ cntP t1 ≤ 1500) ∧ (OkP 40 t2 ∧ cntP t2 ≤ 1500)) ∧ P2 w wx h1 x1 f1 h2 x2 f2
theorem tsMid_no {t1 t2 : RP} {w wx : World} {h1 x1 : Sl} {f1 : Int} {h2 x2 : Sl} {f2 : Int} (h : P2 w wx h1 x1 f1 h2 x2 f2) : TsMid t1 t2 w h1 x1 f1 h2 x2 f2 (.bool true) wx := ⟨true, rfl, (fun e => by cases e), h⟩
theorem tsMid_of {t1 t2 : RP} {w wx : World} {h1 x1 : Sl} {f1 : Int} {h2 x2 : Sl} {f2 : Int} {b : Bool} (g1 : OkP 40 t1 ∧ cntP t1 ≤ 1500) (g2 : OkP 40 t2 ∧ cntP t2 ≤ 1500) (h : P2 w wx h1 x1 f1 h2 x2 f2) : TsMid t1 t2 w h1 x1 f1 h2 x2 f2 (.bool b) wx := ⟨b, rfl, fun _ => ⟨g1, g2⟩, h⟩
/-- what two good plain arrays come to by a function of two numbers -/
noncomputable def lawE (f : Int) (t1 t2 : RP) : Int × PA := twoE (depA (clP t1) + depA (clP t2) + 1) f (clP t1) (clP t2)
theorem lawE_good {f : Int} {t1 t2 : RP} (o1 : OkP 40 t1) (o2 : OkP 40 t2) (h : (lawE f t1 t2).1 = 0) : GoodA 40 (lawE f t1 t2).2 := by
  have := twoE_good _ f _ _ 40 40 (okP_good 40 t1 o1) (okP_good 40 t2 o2) (Nat.lt_succ_self _) h
  exact this
theorem sm_cl {t : RP} (h : cntP t ≤ 1500) : SmA 1000000 (clP t) := SmA.up (by decide) _ (smP t h)
theorem lawE_small {f : Int} {t1 t2 : RP} (o1 : OkP 40 t1) (o2 : OkP 40 t2) (c1 : cntP t1 ≤ 1500) (c2 : cntP t2 ≤ 1500) : SmA 1000000 (lawE f t1 t2).2 :=
  twoE_small (by decide) _ f _ _ 40 40 (okP_good 40 t1 o1) (okP_good 40 t2 o2) (sm_cl c1) (sm_cl c2)
theorem lawTwo_any (f : Int) {t1 t2 : RP} (o1 : OkP 40 t1) (o2 : OkP 40 t2) (c1 : cntP t1 ≤ 1500) (c2 : cntP t2 ≤ 1500) (H : Nat → Prop) (W : World) (hH : ∀ b, H b → b < W.heap.size) (u1 u2 : Sl) (v1 v2 : V8) (g1 : AvAt noH (clP t1) u1 v1 W) (g2 : AvAt noH (clP t2) u2 v2 W) :
    Calls Tryz.prog 9 #[.int .i64 f, arrV u1 v1, arrV u2 v2] W (TwU H W (lawE f t1 t2)) :=
  (ptwo_any _ H noH noH f _ _ 40 40 u1 u2 v1 v2 W hH (noH_lt _) (noH_lt _) (okP_good 40 t1 o1) (okP_good 40 t2 o2) (sm_cl c1) (sm_cl c2) (Nat.lt_succ_self _) g1 g2).mono fun _ _ t => TwR.u t
end Go.Proofs.YtiahegjdkejjpaaGreat
