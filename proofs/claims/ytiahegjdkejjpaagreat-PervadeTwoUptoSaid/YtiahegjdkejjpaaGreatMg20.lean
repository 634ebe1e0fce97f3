/- Merged texts. The walks of relate.spread and relate.at, of vec.Bits. Conditions: as each theorem says. The walks of (vec.Vec).Arrays, of slices.ContainsFunc over arrays, and of value.Good at good arrays. Conditions: at most 1000000 elements. The walk of pervade.frame. Conditions: at most 1048576 axes. The walk of relate.numbers. Conditions: as each theorem says. -/
import Derived.Test.YtiahegjdkejjpaaGreatMg18
import Derived.Test.YtiahegjdkejjpaaGreatMg19
import Derived.Test.YtiahegjdkejjpaaGreatMg08
import Derived.Test.YtiahegjdkejjpaaGreatMg16
import Derived.Test.YtiahegjdkejjpaaGreatMg12
import Derived.Test.YtiahegjdkejjpaaGreatMg17
import Derived.Test.YtiahegjdkejjpaaGreatMg03
import Derived.Deep.CutBlock
namespace Go.Proofs.YtiahegjdkejjpaaGreat
open Go Go.RowKit Go.Proofs Fl
def BitsAt (W : World) (b : Sl) (n : Nat) (L : Nat → Bool) : Prop :=
 ∃ g o c, b = (some ⟨g, o, none⟩, (n + 63) / 64, c) ∧ ∀ j, j < (n + 63) / 64 → W.cell? ⟨g, o + j, none⟩ = some (.int .u64 (packW L n j : Nat))
theorem BitsAt.below {W W' : World} {b : Sl} {n : Nat} {L : Nat → Bool} (h : BitsAt W b n L) (hb : Below W.heap.size W W') : BitsAt W' b n L := by
 obtain ⟨g, o, c, e, hc⟩ := h
 exact ⟨g, o, c, e, fun j hj => by rw [hb.cell (cell_lt (hc j hj))]; exact hc j hj⟩
theorem BitsAt.row {W : World} {B g n : Nat} {L : Nat → Bool} (h : RowU W B g ((n + 63) / 64) (packW L n)) : BitsAt W (some ⟨g, 0, none⟩, (n + 63) / 64, (n + 63) / 64) n L :=
 ⟨g, 0, _, rfl, fun j hj => by rw [Nat.zero_add]; exact h.cell hj⟩
theorem BitsAt.in {W : World} {b : Sl} {n : Nat} {L : Nat → Bool} (h : BitsAt W b n L) : BitsIn W (.agg #[.slice b.1 b.2.1 b.2.2, .int .i64 (n : Int)]) n L := by
 obtain ⟨g, o, c, rfl, hc⟩ := h
 exact ⟨g, o, c, rfl, hc⟩
theorem NumV.bits {b : Sl} {bn : Int} {s i f g x : Sl} {m : Nat} {F : Nat → Nat} {w : World} (h : NumV (vecW 1 b bn s i f g x) 1 m F w) : bn = (m : Int) ∧ ∃ L, BitsAt w b m L ∧ ∀ j, j < m → F j = flagF (L j) := by
 obtain ⟨l, s', e, hb, hf⟩ := h.bitsX rfl
 injection e with e
 have e1 := congrArg (fun a : Array Value => a.getD 1 undef) e
 have e2 := congrArg (fun a : Array Value => a.getD 2 undef) e
 have e1' : Value.slice b.1 b.2.1 b.2.2 = s' := e1
 have e2' : Value.int .i64 bn = .int .i64 (m : Int) := e2
 injection e2' with _ e3
 refine ⟨e3, l, ?_, hf⟩
 obtain ⟨g2, o, c, ev, hc⟩ := hb
 injection ev with ev
 have e4 := congrArg (fun a : Array Value => a.getD 0 undef) ev
 have e4' : s' = .slice (some ⟨g2, o, none⟩) ((m + 63) / 64) c := e4
 rw [← e1'] at e4'
 injection e4' with h1 h2 h3
 exact ⟨g2, o, c, by rw [← h1, ← h2, ← h3], hc⟩
def SpOut (k : Int) (m N : Nat) (F : Nat → Nat) (w : World) (e : Ending) (w' : World) : Prop :=
 (k = 1 ∧ ∃ (b : Sl) (L : Nat → Bool), e = .returned (.tuple #[.agg #[.slice b.1 b.2.1 b.2.2, .int .i64 (N : Int)], .bool true]) ∧ BitsAt w' b N L ∧ (∀ j, j < N → F (ixP m j) = flagF (L j)) ∧ Below w.heap.size w w') ∨
 (k ≠ 1 ∧ e = .returned (.tuple #[.agg #[vnil, .int .i64 0], .bool false]) ∧ Below w.heap.size w w')
structure Sb (w W : World) (p : V8) : Prop where
 one : BoxP W w.heap.size p
 res : W.heap[w.heap.size + 1]? = some (.cells bcells 31)
 bel : Below w.heap.size w W
theorem Sb.step {w W W' : World} {p : V8} (h : Sb w W p) (hb : Below W.heap.size W W') : Sb w W' p :=
 ⟨h.one.below hb, by rw [hb.block _ (lt_of_block h.res)]; exact h.res, bel_both h.bel hb⟩
theorem Sb.new (w : World) (p : V8) : Sb w ((w.alloc p.o).alloc (.cells bcells 31)) p := by
 have h2 := heap_alloc_new (w.alloc p.o) (.cells bcells 31)
 have e1 : (w.alloc p.o).heap.size = w.heap.size + 1 := by simp
 rw [e1] at h2
 exact ⟨(boxP_new w p).below (bel1 _ _), h2, bel2 w _ _⟩
theorem Sb.sz {w W : World} {p : V8} (h : Sb w W p) : w.heap.size + 1 < W.heap.size := lt_of_block h.res
set_option maxRecDepth 100000 in
set_option maxHeartbeats 1000000 in
theorem spread_no (k : Int) (hk : k ≠ 1) (b : Sl) (bn : Int) (s i f g x : Sl) (m N : Nat) (F : Nat → Nat) (w : World) :
  Calls Tryz.prog 69 #[vecW k b bn s i f g x, .int .i64 (N : Int)] w (SpOut k m N F w) := by
 have HP := Lib.hid (fun W => packed_no k hk (.slice b.1 b.2.1 b.2.2) bn (.slice s.1 s.2.1 s.2.2) (.slice i.1 i.2.1 i.2.2) (.slice f.1 f.2.1 f.2.2) (.slice g.1 g.2.1 g.2.2) (.slice x.1 x.2.1 x.2.2) W)
 have HS0 := Lib.hid (Sb.new w ⟨k, b, bn, s, i, f, g, x⟩)
 have HK := Lib.hid hk
 clear hk
 go_enter Tryz.func69, Tryz.ntmps69
 obtain ⟨h0, h1, h2, h3, h4, h5, h6, h7⟩ := HS0.out.one
 go_wp2_with fail
 refine (HP.out _).mono ?_
 rintro e w1 ⟨rfl, hb1⟩
 have HS1 := Lib.hid (HS0.out.step hb1)
 have z1 : w.heap.size + 1 < w1.heap.size := HS1.out.sz
 have HKE := Lib.hid (set2_block HS1.out.res vnil (.int .i64 0))
 clear hb1 h0 h1 h2 h3 h4 h5 h6 h7
 obtain ⟨hk0, hk1, hkf⟩ := pair_of HS1.out.res
 go_wp2
 refine bodyPost_ret (v := .tuple #[.agg #[vnil, .int .i64 0], .bool false]) ?_ rfl (.inr ⟨HK.out, rfl, bel_both (below_set2 HS1.out.bel (Nat.le_succ _) _ _) (bel1 _ _)⟩)
 exact ret_bits2 (fn := Tryz.f69) (p := 4) (u := 5) rfl _ _ (w.heap.size + 1) (by rfl) ((Below.heap_alloc _ _ _ (lt_of_block HKE.out)).trans HKE.out)
set_option maxRecDepth 100000 in
set_option maxHeartbeats 1000000 in
theorem spread_same (b : Sl) (bn : Int) (s i f g x : Sl) (m N : Nat) (F : Nat → Nat) (w : World) (hmN : m = N) (hN : NumV (vecW 1 b bn s i f g x) 1 m F w) :
  Calls Tryz.prog 69 #[vecW 1 b bn s i f g x, .int .i64 (N : Int)] w (SpOut 1 m N F w) := by
 subst hmN
 obtain ⟨rfl, L, hL, hF⟩ := hN.bits
 have HLW := Lib.hid hL
 have HF : Hid (∀ j, j < m → F (ixP m j) = flagF (L j)) := fun j hj => by
  have e : ixP m j = j := by unfold ixP; split <;> omega
  rw [e]; exact hF j hj
 have HP := Lib.hid (fun W => packed_yes b (m : Int) (.slice s.1 s.2.1 s.2.2) (.slice i.1 i.2.1 i.2.2) (.slice f.1 f.2.1 f.2.2) (.slice g.1 g.2.1 g.2.2) (.slice x.1 x.2.1 x.2.2) W)
 have HBL := Lib.hid (fun W => blen_any (.slice b.1 b.2.1 b.2.2) (m : Int) W)
 have HS0 := Lib.hid (Sb.new w ⟨1, b, (m : Int), s, i, f, g, x⟩)
 clear hL hF hN
 have hcase : (((m : Int) == 1) = true ∧ ((m : Int) != 1) = false) ∨ ((m : Int) == 1) = false := by
  by_cases h1 : m = 1
  ·left; subst h1; exact ⟨rfl, rfl⟩
  ·right; simp; omega
 rcases hcase with ⟨e1, e2⟩ | e1
 all_goals
  go_enter Tryz.func69, Tryz.ntmps69
  obtain ⟨h0, h1, h2, h3, h4, h5, h6, h7⟩ := HS0.out.one
  go_wp2_with fail
  refine (HP.out _).mono ?_
  rintro e w1 ⟨rfl, hb1⟩
  have HS1 := Lib.hid (HS0.out.step hb1)
  have z1 : w.heap.size + 1 < w1.heap.size := HS1.out.sz
  clear hb1 h0 h1 h2 h3 h4 h5 h6 h7
  have HS2 := Lib.hid (HS1.out.step (bel1 w1 (.cells #[.slice b.1 b.2.1 b.2.2, .int .i64 (m : Int)] 31)))
  have HV2 := Lib.hid (heap_alloc_new w1 (.cells #[.slice b.1 b.2.1 b.2.2, .int .i64 (m : Int)] 31))
  go_wp2_with fail
  refine (HBL.out _).mono ?_
  rintro e w2 ⟨rfl, hb2⟩
  have HS3 := Lib.hid (HS2.out.step hb2)
  have HV3 := Lib.hid (show w2.heap[w1.heap.size]? = some (.cells #[.slice b.1 b.2.1 b.2.2, .int .i64 (m : Int)] 31) by rw [hb2.block _ (lt_of_block HV2.out)]; exact HV2.out)
  clear hb2
  have HKE := Lib.hid (set2_block HS3.out.res (.slice b.1 b.2.1 b.2.2) (.int .i64 (m : Int)))
  have HBE := Lib.hid (below_set2 HS3.out.bel (Nat.le_succ _) (.slice b.1 b.2.1 b.2.2) (.int .i64 (m : Int)))
  have HLE := Lib.hid (HLW.out.below HBE.out)
  have z2 : w.heap.size + 1 < w2.heap.size := HS3.out.sz
  obtain ⟨hk0, hk1, hkf⟩ := pair_of HS3.out.res
  obtain ⟨hv0, hv1, hvf⟩ := pair_of HV3.out
  go_wp2
  refine bodyPost_ret (v := .tuple #[.agg #[.slice b.1 b.2.1 b.2.2, .int .i64 (m : Int)], .bool true]) ?_ rfl (.inl ⟨rfl, b, L, rfl, HLE.out, HF.out, HBE.out⟩)
  exact ret_bits2 (fn := Tryz.f69) (p := 4) (u := 5) rfl _ _ (w.heap.size + 1) (by rfl) HKE.out
set_option maxRecDepth 100000 in
set_option maxHeartbeats 1000000 in
theorem spread_more (b : Sl) (bn : Int) (s i f g x : Sl) (N : Nat) (F : Nat → Nat) (w : World) (hn : N ≤ 1000000) (hN1 : N ≠ 1) (hN : NumV (vecW 1 b bn s i f g x) 1 1 F w) :
  Calls Tryz.prog 69 #[vecW 1 b bn s i f g x, .int .i64 (N : Int)] w (SpOut 1 1 N F w) := by
 obtain ⟨rfl, L, hL, hF⟩ := hN.bits
 have HLW := Lib.hid hL
 have HF : Hid (∀ j, j < N → F (ixP 1 j) = flagF ((fun _ => L 0) j)) := fun j _ => hF 0 (by decide)
 have HP := Lib.hid (fun W => packed_yes b ((1 : Nat) : Int) (.slice s.1 s.2.1 s.2.2) (.slice i.1 i.2.1 i.2.2) (.slice f.1 f.2.1 f.2.2) (.slice g.1 g.2.1 g.2.2) (.slice x.1 x.2.1 x.2.2) W)
 have HBL := Lib.hid (fun W => blen_any (.slice b.1 b.2.1 b.2.2) 1 W)
 have HAT := Lib.hid (fun W (hb : Below w.heap.size w W) => bitV_at (W := W) (n := 1) (by decide) (hL.below hb).in 0 (by decide))
 have HMK := Lib.hid (fun t W => make_any N t (by omega) W)
 have HS0 := Lib.hid (Sb.new w ⟨1, b, ((1 : Nat) : Int), s, i, f, g, x⟩)
 have e1 : ((N : Int) != 1) = true := by simp; omega
 clear hL hF hN hN1
 go_enter Tryz.func69, Tryz.ntmps69
 obtain ⟨h0, h1, h2, h3, h4, h5, h6, h7⟩ := HS0.out.one
 go_wp2_with fail
 refine (HP.out _).mono ?_
 rintro e w1 ⟨rfl, hb1⟩
 have HS1 := Lib.hid (HS0.out.step hb1)
 have z1 : w.heap.size + 1 < w1.heap.size := HS1.out.sz
 clear hb1 h0 h1 h2 h3 h4 h5 h6 h7
 have HS2 := Lib.hid (HS1.out.step (bel1 w1 (.cells #[.slice b.1 b.2.1 b.2.2, .int .i64 ((1 : Nat) : Int)] 31)))
 have HV2 := Lib.hid (heap_alloc_new w1 (.cells #[.slice b.1 b.2.1 b.2.2, .int .i64 ((1 : Nat) : Int)] 31))
 go_wp2_with fail
 refine (HBL.out _).mono ?_
 rintro e w2 ⟨rfl, hb2⟩
 have HS3 := Lib.hid (HS2.out.step hb2)
 have HV3 := Lib.hid (show w2.heap[w1.heap.size]? = some (.cells #[.slice b.1 b.2.1 b.2.2, .int .i64 ((1 : Nat) : Int)] 31) by rw [hb2.block _ (lt_of_block HV2.out)]; exact HV2.out)
 clear hb2
 obtain ⟨hv0, hv1, hvf⟩ := pair_of HV3.out
 go_wp2_with fail
 refine (HAT.out _ HS3.out.bel).mono ?_
 rintro e w3 ⟨rfl, hb3⟩
 have HS4 := Lib.hid (HS3.out.step hb3)
 clear hb3 hv0 hv1 hvf
 go_wp2_with fail
 refine (HMK.out _ _).mono ?_
 rintro e w4 ⟨gg, rfl, hr4, hb4⟩
 have HS5 := Lib.hid (HS4.out.step hb4)
 have HR5 := Lib.hid (BitsAt.row (L := fun _ => L 0) (own_set2 hr4 (G := w.heap.size + 1) (by show some gg ≠ _; have := hr4.low.1; have := HS4.out.sz; intro e; injection e; omega) (.slice (some ⟨gg, 0, none⟩) ((N + 63) / 64) ((N + 63) / 64)) (.int .i64 (N : Int))))
 clear hr4 hb4
 have HKE := Lib.hid (set2_block HS5.out.res (.slice (some ⟨gg, 0, none⟩) ((N + 63) / 64) ((N + 63) / 64)) (.int .i64 (N : Int)))
 have HBE := Lib.hid (below_set2 HS5.out.bel (Nat.le_succ _) (.slice (some ⟨gg, 0, none⟩) ((N + 63) / 64) ((N + 63) / 64)) (.int .i64 (N : Int)))
 obtain ⟨hk0, hk1, hkf⟩ := pair_of HS5.out.res
 go_wp2
 refine bodyPost_ret (v := .tuple #[.agg #[.slice (some ⟨gg, 0, none⟩) ((N + 63) / 64) ((N + 63) / 64), .int .i64 (N : Int)], .bool true]) ?_ rfl (.inl ⟨rfl, (some ⟨gg, 0, none⟩, (N + 63) / 64, (N + 63) / 64), fun _ => L 0, rfl, HR5.out, HF.out, HBE.out⟩)
 exact ret_bits2 (fn := Tryz.f69) (p := 4) (u := 5) rfl _ _ (w.heap.size + 1) (by rfl) HKE.out
theorem spread_any (k : Int) (b : Sl) (bn : Int) (s i f g x : Sl) (m N : Nat) (F : Nat → Nat) (w : World) (hn : N ≤ 1000000) (hmN : m = N ∨ m = 1) (hN : NumV (vecW k b bn s i f g x) k m F w) :
  Calls Tryz.prog 69 #[vecW k b bn s i f g x, .int .i64 (N : Int)] w (SpOut k m N F w) := by
 by_cases hk : k = 1
 ·subst hk
  by_cases h : m = N
  ·exact spread_same b bn s i f g x m N F w h hN
  ·obtain rfl : m = 1 := hmN.resolve_left h
   exact spread_more b bn s i f g x N F w hn (fun e => h e.symm) hN
 ·exact spread_no k hk b bn s i f g x m N F w
set_option maxHeartbeats 400000 in
theorem rat_any (p : V8) (m i : Nat) (w : World) (hL : ∀ W, Below w.heap.size w W → Calls Tryz.prog 38 #[p.v] W fun e w2 => e = .returned (.int .i64 (m : Nat)) ∧ Below W.heap.size W w2) :
  Calls Tryz.prog 104 #[p.v, .int .i64 (i : Int)] w fun e w' => e = .returned (.int .i64 (ixP m i : Nat)) ∧ Below w.heap.size w w' := by
 have HL := Lib.hid hL
 clear hL
 by_cases h : m = 1
 ·have HX : Hid (ixP m i = 0) := if_pos h
  have e1 : ((m : Int) == 1) = true := by simp; omega
  clear h
  go_enter Tryz.func104, Tryz.ntmps104
  go_wp2_with fail
  refine (HL.out _ (bel1 w _)).mono ?_
  rintro e w1 ⟨rfl, hb1⟩
  have HB := Lib.hid (bel_both (bel1 w _) hb1)
  clear hb1
  go_wp2
  go_ret
  exact ⟨by rw [HX.out]; rfl, HB.out⟩
 ·have HX : Hid (ixP m i = i) := if_neg h
  have e1 : ((m : Int) == 1) = false := by simp; omega
  clear h
  go_enter Tryz.func104, Tryz.ntmps104
  go_wp2_with fail
  refine (HL.out _ (bel1 w _)).mono ?_
  rintro e w1 ⟨rfl, hb1⟩
  have HB := Lib.hid (bel_both (bel1 w _) hb1)
  clear hb1
  go_wp2
  go_ret
  exact ⟨by rw [HX.out]; rfl, HB.out⟩
theorem At9.c {w : World} {b : Nat} {h : Sl} {p : V8} (g : At9 w b 0 h p) : w.cell? ⟨b, 0, none⟩ = some (.slice h.1 h.2.1 h.2.2) ∧ w.cell? ⟨b, 1, none⟩ = some (.int .i64 p.k) ∧ w.cell? ⟨b, 2, none⟩ = some (.slice p.b.1 p.b.2.1 p.b.2.2) ∧ w.cell? ⟨b, 3, none⟩ = some (.int .i64 p.bn) ∧
  w.cell? ⟨b, 4, none⟩ = some (.slice p.s.1 p.s.2.1 p.s.2.2) ∧ w.cell? ⟨b, 5, none⟩ = some (.slice p.i.1 p.i.2.1 p.i.2.2) ∧ w.cell? ⟨b, 6, none⟩ = some (.slice p.f.1 p.f.2.1 p.f.2.2) ∧ w.cell? ⟨b, 7, none⟩ = some (.slice p.c.1 p.c.2.1 p.c.2.2) ∧ w.cell? ⟨b, 8, none⟩ = some (.slice p.x.1 p.x.2.1 p.x.2.2) := g
set_option maxHeartbeats 400000 in
theorem arrays_no (k : Int) (hk : k ≠ 6) (b : Value) (bn : Int) (s i f c x : Value) (w : World) :
  Calls Tryz.prog 89 #[vecV k b bn s i f c x] w fun e w' => e = .returned vnil ∧ Below w.heap.size w w' := by
 have hk1 : (k != 6) = true := by simpa using hk
 clear hk
 go_enter Tryz.func89, Tryz.ntmps89
 go_wp2
 go_ret
 exact ⟨rfl, bel1 _ _⟩
def AslR (H : Nat → Prop) (w : World) (l : List PA) (e : Ending) (w' : World) : Prop := ∃ y : Sl, e = .returned (sv y) ∧ ASl H w' y l ∧ Below w.heap.size w w'
set_option maxHeartbeats 400000 in
theorem arrays_yes {H : Nat → Prop} {w : World} {x : Sl} {l : List PA} (g : ASl H w x l) (hl : l.length ≤ 1048576) (hH : ∀ b, H b → b < w.heap.size) :
  Calls Tryz.prog 89 #[(boxesP x).v] w (AslR H w l) := by
 have HB := Lib.hid (bel1 w (boxesP x).o)
 have HC := Lib.hid (clA_any (g.step HB.out) hl (fun b e => by have := hH b e; simp; omega))
 have HH := Lib.hid hH
 clear g hl hH
 go_enter Tryz.func89, Tryz.ntmps89
 go_wp2_with fail
 refine HC.out.mono ?_
 rintro e w1 ⟨u, rfl, ho, hb1⟩
 obtain ⟨y, rfl, hy⟩ := ho.asl (fun b e => by have := HH.out b e; simp; omega)
 have HY := Lib.hid hy
 have HB1 := Lib.hid (bel_both HB.out hb1)
 clear ho hy hb1
 obtain ⟨yA, yn, yc⟩ := y
 dsimp only [sv]
 go_wp2
 go_ret
 exact ⟨(yA, yn, yc), rfl, HY.out, HB1.out⟩
def arrA : PA → List PA
 | .boxes _ l => l
 | _ => []
theorem av_kind {H : Nat → Prop} {w : World} {a : PA} {h : Sl} {p : V8} (g : AV H w a h p) : p.k ≠ 0 ∧ (a.fill ≠ 2 → p.k ≠ 6) ∧ (a.fill ≠ 0 → p.k ≠ 1) := by
 cases a with
 | nums s l =>
  rcases g.nums with h | ⟨_, rfl⟩
  ·have hk := h.num.now.kind
   exact ⟨by omega, fun _ => by omega, fun h => absurd rfl h⟩
  ·exact ⟨show (1 : Int) ≠ 0 by decide, fun _ => show (1 : Int) ≠ 6 by decide, fun h => absurd rfl h⟩
 | chars s l =>
  obtain ⟨c, rfl, _⟩ := g.chars
  exact ⟨show (5 : Int) ≠ 0 by decide, fun _ => show (5 : Int) ≠ 6 by decide, fun _ => show (5 : Int) ≠ 1 by decide⟩
 | boxes s l =>
  obtain ⟨x, rfl, _⟩ := g.asl
  exact ⟨show (6 : Int) ≠ 0 by decide, fun h => absurd rfl h, fun _ => show (6 : Int) ≠ 1 by decide⟩
theorem av_arrays {H : Nat → Prop} {w : World} {a : PA} {h : Sl} {p : V8} (g : AV H w a h p) (hl : a.len ≤ 1048576) (W : World) (hH : ∀ b, H b → b < W.heap.size) (hb : Below w.heap.size w W) :
  Calls Tryz.prog 89 #[p.v] W (AslR H W (arrA a)) := by
 have hno : a.fill ≠ 2 → arrA a = [] → Calls Tryz.prog 89 #[p.v] W (AslR H W (arrA a)) := by
  intro h2 h0
  rw [h0]
  refine (arrays_no p.k ((av_kind g).2.1 h2) _ p.bn _ _ _ _ _ W).mono ?_
  rintro e w' ⟨rfl, hb2⟩
  exact ⟨nilS, rfl, ASl.nil _ _ _ _, hb2⟩
 cases a with
 | nums s l => exact hno (show (0 : Nat) ≠ 2 by decide) rfl
 | chars s l => exact hno (show (1 : Nat) ≠ 2 by decide) rfl
 | boxes s l =>
  obtain ⟨x, rfl, hx⟩ := g.asl
  exact arrays_yes (hx.step hb) hl hH
set_option maxRecDepth 100000 in
set_option maxHeartbeats 1600000 in
theorem aIndex_walk {H : Nat → Prop} (l : List PA) (x : Sl) (w : World) (q : Addr) (f : FuncId) (fn : Func) (hfn : Tryz.prog.funcs[f]? = some fn) (hnm : (fn.name == "runtime.NumGoroutine") = false) (co : Code) (hco : fn.body = some co)
  (hx : ASl H w x l) (hm2 : l.length ≤ 1048576)
  (hf : ∀ i (hi : i < l.length) h p w1, Below w.heap.size w w1 → AV H w1 l[i] h p → Calls Tryz.prog f #[arrV h p, .pointer (some q)] w1 fun e w' => e = .returned (.bool false) ∧ Below w1.heap.size w1 w') :
  Calls Tryz.prog 117 #[sv x, .func (.func f) #[] #[.pointer (some q)]] w fun e w' => e = .returned (.int .i64 (-1)) ∧ Below w.heap.size w w' := by
 obtain ⟨A, m, cc⟩ := x
 have hm : m = l.length := hx.1
 have HK : Hid (∀ i (hi : i < l.length), ∃ b o h p, A = some ⟨b, o, none⟩ ∧ ¬ H b ∧ AV H w l[i] h p ∧ ∀ w1, Lat H w w1 → At9 w1 b (o + i * 9) h p) := hx.at_
 have hmb : m ≤ 1048576 := by omega
 have HM := Lib.hid hm
 have HF := Lib.hid hf
 have hcf : ∀ (args : Array Value) (w : World), (callFunc f args).run Tryz.prog w = .ok (.enter f args) w := by
  intro args w
  have h1 : fn.name ≠ "runtime.NumGoroutine" := by simpa using hnm
  simp [callFunc, hfn, h1, hco]
 clear hx hm2 hm hf hfn hnm hco
 dsimp only [sv]
 go_enter Tryz.func117, Tryz.ntmps117
 go_wp2
 go_loopw [5, 8] (fun _ iv wr => ∃ k : Nat, k ≤ m ∧ iv = .int .i64 (k : Int) ∧ Below w.heap.size w wr) (fun _ iv _ => m - (intOf iv).toNat)
 case atStart => exact ⟨0, Nat.zero_le _, rfl, Below.refl _ _⟩
 case round =>
  obtain ⟨k, hk, rfl, hbl⟩ := hrel
  have HBL := Lib.hid hbl
  by_cases hlt : k < m
  ·have hik : k < l.length := by have := HM.out; omega
   obtain ⟨b, o, h', p', rfl, -, hav, hce⟩ := HK.out k hik
   obtain ⟨c0, c1, c2, c3, c4, c5, c6, c7, c8⟩ := hce wr (Lat.below hbl)
   dsimp only [sv] at c0 c1 c2 c3 c4 c5 c6 c7 c8
   have HFC := Lib.hid (HF.out k hik h' p' wr hbl (AV.step hav hbl))
   clear hav hce hbl
   go_wp2_with fail
   refine HFC.out.mono ?_
   rintro e w2 ⟨rfl, hb⟩
   have HB2 := Lib.hid (HBL.out.trans (hb.mono HBL.out.size))
   clear hb c0 c1 c2 c3 c4 c5 c6 c7 c8
   go_wp2
   go_roundw
   case rel => exact ⟨k + 1, by omega, by go_num, HB2.out⟩
   case measure => simp [intOf]; omega
  ·clear hbl
   go_wp2
   go_ret
   exact ⟨rfl, HBL.out⟩
theorem aContains_walk {H : Nat → Prop} (l : List PA) (x : Sl) (w : World) (q : Addr) (f : FuncId) (fn : Func) (hfn : Tryz.prog.funcs[f]? = some fn) (hnm : (fn.name == "runtime.NumGoroutine") = false) (co : Code) (hco : fn.body = some co)
  (hx : ASl H w x l) (hm2 : l.length ≤ 1048576)
  (hf : ∀ i (hi : i < l.length) h p w1, Below w.heap.size w w1 → AV H w1 l[i] h p → Calls Tryz.prog f #[arrV h p, .pointer (some q)] w1 fun e w' => e = .returned (.bool false) ∧ Below w1.heap.size w1 w') :
  Calls Tryz.prog 88 #[sv x, .func (.func f) #[] #[.pointer (some q)]] w fun e w' => e = .returned (.bool false) ∧ Below w.heap.size w w' := by
 have HI := Lib.hid (aIndex_walk l x w q f fn hfn hnm co hco hx hm2 hf)
 clear hx hm2 hf hfn hnm hco
 go_enter Tryz.func88, Tryz.ntmps88
 go_wp2_with fail
 refine HI.out.mono ?_
 rintro e w' ⟨rfl, hb⟩
 have HB := Lib.hid hb
 clear hb
 go_wp2
 go_ret
 exact ⟨rfl, HB.out⟩
theorem av_packed {H : Nat → Prop} {w : World} {a : PA} {h : Sl} {p : V8} (g : AV H w a h p) (hl : a.len ≤ 1000000) (W : World) (hb : Below w.heap.size w W) :
  ∃ (u : Sl) (n : Int) (t : Bool), Calls Tryz.prog 86 #[p.v] W (fun e w' => e = .returned (.tuple #[.agg #[.slice u.1 u.2.1 u.2.2, .int .i64 n], .bool t]) ∧ Below W.heap.size W w') ∧
   (t = true → ∀ W', Below W.heap.size W W' → Calls Tryz.prog 87 #[.agg #[.slice u.1 u.2.1 u.2.2, .int .i64 n]] W' (fun e w' => e = .returned (.bool true) ∧ Below W'.heap.size W' w')) := by
 by_cases hk : p.k = 1
 ·have hf : a.fill = 0 := Classical.byContradiction fun h => (av_kind g).2.2 h hk
  cases a with
  | chars s l => cases hf
  | boxes s l => cases hf
  | nums s l =>
   rcases g.nums with h | ⟨_, rfl⟩
   ·have hn := (Keeps.lat h.num (Lat.below hb)).now
    obtain ⟨k, b, bn, s, i, f, c, x⟩ := p
    obtain rfl : k = 1 := hk
    obtain ⟨rfl, L, hat, _⟩ := NumV.bits hn
    exact ⟨b, _, true, packed_yes b _ _ _ _ _ _ W, fun _ W' hb' => btidy_any (hat.below hb').in hl⟩
   ·exact ⟨nilS, 0, true, packed_yes nilS _ _ _ _ _ _ W, fun _ W' _ => btidy_zb W'⟩
 ·exact ⟨nilS, 0, false, packed_no p.k hk _ p.bn _ _ _ _ _ W, fun h => by cases h⟩
set_option maxRecDepth 100000 in
set_option maxHeartbeats 1600000 in
theorem good_walk : ∀ (d : Nat) (H : Nat → Prop) (a : PA) (h : Sl) (p : V8) (w : World) (z : Int), z = (d : Int) → d ≤ 100 → (∀ b, H b → b < w.heap.size) → GoodA d a → SmA 1000000 a → AV H w a h p →
  Calls Tryz.prog 52 #[arrV h p, .int .i64 z] w fun e w' => e = .returned (.bool true) ∧ Below w.heap.size w w'
 | 0, _, a, _, _, _, _, _, _, _, hg, _, _ => absurd hg.sh.1 (Nat.lt_irrefl _)
 | d + 1, H, a, h, p, w, z, hz, hd, hH, hg, hs, hav => by
  have hlen : a.len ≤ 1000000 := hs.len
  obtain ⟨w0, hw0⟩ : ∃ w0, w0 = (w.alloc (arrO h p)).alloc (.cells #[.int .i64 z] 3) := ⟨_, rfl⟩
  have hb0 : Below w.heap.size w w0 := by rw [hw0]; exact bel2 _ _ _
  have hsz : w0.heap.size = w.heap.size + 2 := by rw [hw0]; simp
  have h9 : At9 w0 w.heap.size 0 h p := by rw [hw0]; exact (at9_new w h p).below (bel1 _ _)
  have hq : w0.cell? ⟨w.heap.size + 1, 0, none⟩ = some (.int .i64 z) := by rw [hw0, World.cell?_alloc_at _ _ _ _ (by simp)]; rfl
  have HPR : Hid (Calls Tryz.prog 43 #[sv h, .int .i64 1048576] w0 fun e w' => e = .returned (.tuple #[.int .i64 (a.len : Int), .int .i64 0]) ∧ w0 = w') := by
   have q := product_any (sv h) a.shape 1048576 w0 (Keeps.lat hav.shape (Lat.below hb0)).now (by have := hg.sh.2.1; omega)
   rw [prodE_ok hg.sh.2 (by omega)] at q
   exact q
  have HLN := Lib.hid (fun W (hb : Below w0.heap.size w0 W) => av_len hav W (bel_both hb0 hb))
  have HTI := Lib.hid (fun W (hb : Below w0.heap.size w0 W) => av_tight hav hlen W (bel_both hb0 hb))
  have HKI := Lib.hid (fun W => vkind_any p.k (.slice p.b.1 p.b.2.1 p.b.2.2) p.bn (.slice p.s.1 p.s.2.1 p.s.2.2) (.slice p.i.1 p.i.2.1 p.i.2.2) (.slice p.f.1 p.f.2.1 p.f.2.2) (.slice p.c.1 p.c.2.1 p.c.2.2) (.slice p.x.1 p.x.2.1 p.x.2.2) W)
  have hk0 : (p.k == 0) = false := by have := (av_kind hav).1; simpa using this
  have HPK := Lib.hid (fun W (hb : Below w0.heap.size w0 W) => av_packed hav hlen W (bel_both hb0 hb))
  have HAR := Lib.hid (fun W (hb : Below w0.heap.size w0 W) => av_arrays hav (by omega) W (fun b e => by have := hH b e; have := hb.size; omega) (bel_both hb0 hb))
  have hz0 : (z == 0) = false := by simp; omega
  have hcl : ∀ i (hi : i < (arrA a).length) h' p' w1, Below w0.heap.size w0 w1 → AV H w1 (arrA a)[i] h' p' →
    Calls Tryz.prog 90 #[arrV h' p', .pointer (some ⟨w.heap.size + 1, 0, none⟩)] w1 fun e w' => e = .returned (.bool false) ∧ Below w1.heap.size w1 w' := by
   intro i hi h' p' w1 hb hav'
   have hga : GoodA d (arrA a)[i] ∧ SmA 1000000 (arrA a)[i] := by
    cases a with
    | nums s l => simp [arrA] at hi
    | chars s l => simp [arrA] at hi
    | boxes s l => exact ⟨show GoodA d l[i] by simpa using hg.boxes i hi, hs.boxes i hi⟩
   generalize (arrA a)[i] = a' at hga hav'
   have hqd : w1.cell? ⟨w.heap.size + 1, 0, none⟩ = some (.int .i64 z) := cell_up hb hq
   have hq2 : (w1.alloc (arrO h' p')).cell? ⟨w.heap.size + 1, 0, none⟩ = some (.int .i64 z) := cell_up (bel1 w1 (arrO h' p')) hqd
   have HC := Lib.hid (good_walk d H a' h' p' (w1.alloc (arrO h' p')) (z - 1) (by omega) (by omega) (fun b e => by have := hH b e; have := hb.size; simp; omega) hga.1 hga.2 (AV.step hav' (bel1 w1 (arrO h' p'))))
   have HB1 := Lib.hid (bel1 w1 (arrO h' p'))
   have hz1 : 0 ≤ z - 1 := by omega
   have hz2 : z ≤ 101 := by omega
   clear hqd hb hav' hga hz hg hs hav h9 hq hw0 hb0 hsz HPR HLN HTI HKI HPK HAR hz0 hk0
   go_enter Tryz.func90, Tryz.ntmps90
   go_wp2_with fail
   (with_reducible refine HC.out.mono ?_)
   rintro e w2 ⟨rfl, hb⟩
   have HB2 := Lib.hid (bel_both HB1.out hb)
   clear hb hq2
   go_wp2
   go_ret
   exact ⟨rfl, HB2.out⟩
  have HCT := Lib.hid (fun W y (hb : Below w0.heap.size w0 W) (hy : ASl H W y (arrA a)) => aContains_walk (arrA a) y W ⟨w.heap.size + 1, 0, none⟩ 90 _ Tryz.func90 (by kernel_rfl) _ rfl hy (by
   cases a with
   | nums s l => simp [arrA]
   | chars s l => simp [arrA]
   | boxes s l => exact Nat.le_trans (show l.length ≤ 1000000 from hlen) (by decide)) (fun i hi h' p' w1 hb1 hav' => hcl i hi h' p' w1 (bel_both hb hb1) hav'))
  have H90 := Lib.hid h9
  have HW0 := Lib.hid hw0
  have HB0 := Lib.hid hb0
  have HQ := Lib.hid hq
  generalize a.len = n at HPR HLN
  have hnn : ((n : Int) != (n : Int)) = false := by simp
  clear hcl hlen hw0 hb0 hsz h9 hq hz hd hH hg hs hav
  go_enter Tryz.func52, Tryz.ntmps52
  go_wp2_with fail
  rw [← HW0.out]
  refine HPR.out.mono ?_
  rintro e w1 ⟨rfl, rfl⟩
  obtain ⟨c0, c1, c2, c3, c4, c5, c6, c7, c8⟩ := H90.out.c
  go_wp2_with fail
  refine (HLN.out _ (Below.refl _ _)).mono ?_
  rintro e w1 ⟨rfl, hb⟩
  have H91 := Lib.hid (H90.out.below hb)
  have HB1 := Lib.hid hb
  clear hb c0 c1 c2 c3 c4 c5 c6 c7 c8
  obtain ⟨c0, c1, c2, c3, c4, c5, c6, c7, c8⟩ := H91.out.c
  go_wp2_with fail
  refine (HKI.out _).mono ?_
  rintro e w2 ⟨rfl, hb⟩
  have H92 := Lib.hid (H91.out.below hb)
  have HB2 := Lib.hid (bel_both HB1.out hb)
  clear hb c0 c1 c2 c3 c4 c5 c6 c7 c8
  obtain ⟨c0, c1, c2, c3, c4, c5, c6, c7, c8⟩ := H92.out.c
  go_wp2_with fail
  refine (HTI.out _ HB2.out).mono ?_
  rintro e w3 ⟨rfl, hb⟩
  have H93 := Lib.hid (H92.out.below hb)
  have HB3 := Lib.hid (bel_both HB2.out hb)
  clear hb c0 c1 c2 c3 c4 c5 c6 c7 c8
  obtain ⟨c0, c1, c2, c3, c4, c5, c6, c7, c8⟩ := H93.out.c
  have q3 := cell_up HB3.out HQ.out
  obtain ⟨u, m, t, hpk, htd⟩ := HPK.out _ HB3.out
  have HTD := Lib.hid htd
  have HPC := Lib.hid hpk
  clear htd hpk
  go_wp2_with fail
  refine HPC.out.mono ?_
  rintro e w4 ⟨rfl, hb⟩
  have HP0 := Lib.hid (hb)
  have HB4 := Lib.hid (bel_both HB3.out (bel_both hb (bel1 w4 (.cells #[.slice u.1 u.2.1 u.2.2, .int .i64 m] 31))))
  have H94 := Lib.hid (H93.out.below (bel_both hb (bel1 w4 (.cells #[.slice u.1 u.2.1 u.2.2, .int .i64 m] 31))))
  clear hb c0 c1 c2 c3 c4 c5 c6 c7 c8 q3
  have HTC : Hid (t = true → Calls Tryz.prog 87 #[.agg #[.slice u.1 u.2.1 u.2.2, .int .i64 m]] (w4.alloc (.cells #[.slice u.1 u.2.1 u.2.2, .int .i64 m] 31)) fun e w' => e = .returned (.bool true) ∧ Below (w4.alloc (.cells #[.slice u.1 u.2.1 u.2.2, .int .i64 m] 31)).heap.size (w4.alloc (.cells #[.slice u.1 u.2.1 u.2.2, .int .i64 m] 31)) w') := fun ht => HTD.out ht _ (bel_both HP0.out (bel1 _ _))
  obtain ⟨c0, c1, c2, c3, c4, c5, c6, c7, c8⟩ := H94.out.c
  have q4 := cell_up HB4.out HQ.out
  cases t with
  | false =>
   go_wp2_with fail
   refine (HAR.out _ HB4.out).mono ?_
   rintro e w6 ⟨y, rfl, hy, hb⟩
   have HB6 := Lib.hid (bel_both HB4.out hb)
   have HCC := Lib.hid (HCT.out w6 y HB6.out hy)
   clear hb hy c0 c1 c2 c3 c4 c5 c6 c7 c8 q4
   obtain ⟨yA, yn, yc⟩ := y
   go_wp2_with fail
   refine HCC.out.mono ?_
   rintro e w7 ⟨rfl, hb⟩
   have HB7 := Lib.hid (bel_both HB0.out (bel_both HB6.out hb))
   clear hb
   go_wp2
   go_ret
   exact ⟨rfl, HB7.out⟩
  | true =>
   have HT := Lib.hid (HTC.out rfl)
   go_wp2_with fail
   refine HT.out.mono ?_
   rintro e w5 ⟨rfl, hb⟩
   have HB5 := Lib.hid (bel_both HB4.out hb)
   have H95 := Lib.hid (H94.out.below hb)
   clear hb c0 c1 c2 c3 c4 c5 c6 c7 c8 q4
   obtain ⟨c0, c1, c2, c3, c4, c5, c6, c7, c8⟩ := H95.out.c
   go_wp2_with fail
   refine (HAR.out _ HB5.out).mono ?_
   rintro e w6 ⟨y, rfl, hy, hb⟩
   have HB6 := Lib.hid (bel_both HB5.out hb)
   have HCC := Lib.hid (HCT.out w6 y HB6.out hy)
   clear hb hy c0 c1 c2 c3 c4 c5 c6 c7 c8
   obtain ⟨yA, yn, yc⟩ := y
   go_wp2_with fail
   refine HCC.out.mono ?_
   rintro e w7 ⟨rfl, hb⟩
   have HB7 := Lib.hid (bel_both HB0.out (bel_both HB6.out hb))
   clear hb
   go_wp2
   go_ret
   exact ⟨rfl, HB7.out⟩
theorem vgood_any {H : Nat → Prop} {w : World} {a : PA} {h : Sl} {p : V8} (hav : AV H w a h p) (hH : ∀ b, H b → b < w.heap.size) (hg : GoodA 40 a) (hs : SmA 1000000 a) :
  Calls Tryz.prog 34 #[arrV h p] w fun e w' => e = .returned (.bool true) ∧ Below w.heap.size w w' := by
 have HB := Lib.hid (bel1 w (arrO h p))
 have HC := Lib.hid (good_walk 40 H a h p _ 40 rfl (by decide) (fun b e => by have := hH b e; simp; omega) hg hs (AV.step hav HB.out))
 clear hav hH hg hs
 go_enter Tryz.func34, Tryz.ntmps34
 go_wp2_with fail
 refine HC.out.mono ?_
 rintro e w1 ⟨rfl, hb⟩
 have HB1 := Lib.hid (bel_both HB.out hb)
 clear hb
 go_wp2
 go_ret
 exact ⟨rfl, HB1.out⟩
structure A2 (w W : World) (h1 : Sl) (p : V8) (h2 : Sl) (q : V8) : Prop where
 one : At9 W w.heap.size 0 h1 p
 two : At9 W (w.heap.size + 1) 0 h2 q
 bel : Below w.heap.size w W
theorem A2.step {w W W' : World} {h1 h2 : Sl} {p q : V8} (h : A2 w W h1 p h2 q) (hb : Below W.heap.size W W') : A2 w W' h1 p h2 q := ⟨h.one.below hb, h.two.below hb, bel_both h.bel hb⟩
theorem A2.dr {w W : World} {h1 h2 : Sl} {p q : V8} (h : A2 w W h1 p h2 q) : A2 w W.drew h1 p h2 q := h.step (Below.refl _ W).drew
theorem A2.self {w W : World} {h1 h2 : Sl} {p q : V8} (h : A2 w W h1 p h2 q) : A2 w W h1 p h2 q := h
theorem A2.new (w : World) (h1 h2 : Sl) (p q : V8) : A2 w ((w.alloc (arrO h1 p)).alloc (arrO h2 q)) h1 p h2 q := by
 have h := at9_new (w.alloc (arrO h1 p)) h2 q
 have e : (w.alloc (arrO h1 p)).heap.size = w.heap.size + 1 := by simp
 rw [e] at h
 exact ⟨(at9_new w h1 p).below (bel1 _ _), h, bel2 w _ _⟩
theorem a2_s {w W : World} {h1 h2 : Sl} {p q : V8} (h : A2 w W h1 p h2 q) : ((W.cell? ⟨w.heap.size, 0, none⟩ = some (.slice h1.1 h1.2.1 h1.2.2) ∧ W.cell? ⟨w.heap.size, 1, none⟩ = some (.int .i64 p.k) ∧ W.cell? ⟨w.heap.size, 2, none⟩ = some (.slice p.b.1 p.b.2.1 p.b.2.2) ∧ W.cell? ⟨w.heap.size, 3, none⟩ = some (.int .i64 p.bn) ∧ W.cell? ⟨w.heap.size, 4, none⟩ = some (.slice p.s.1 p.s.2.1 p.s.2.2) ∧ W.cell? ⟨w.heap.size, 5, none⟩ = some (.slice p.i.1 p.i.2.1 p.i.2.2) ∧ W.cell? ⟨w.heap.size, 6, none⟩ = some (.slice p.f.1 p.f.2.1 p.f.2.2) ∧ W.cell? ⟨w.heap.size, 7, none⟩ = some (.slice p.c.1 p.c.2.1 p.c.2.2) ∧ W.cell? ⟨w.heap.size, 8, none⟩ = some (.slice p.x.1 p.x.2.1 p.x.2.2)) ∧ (W.cell? ⟨w.heap.size + 1, 0, none⟩ = some (.slice h2.1 h2.2.1 h2.2.2) ∧ W.cell? ⟨w.heap.size + 1, 1, none⟩ = some (.int .i64 q.k) ∧ W.cell? ⟨w.heap.size + 1, 2, none⟩ = some (.slice q.b.1 q.b.2.1 q.b.2.2) ∧ W.cell? ⟨w.heap.size + 1, 3, none⟩ = some (.int .i64 q.bn) ∧ W.cell? ⟨w.heap.size + 1, 4, none⟩ = some (.slice q.s.1 q.s.2.1 q.s.2.2) ∧ W.cell? ⟨w.heap.size + 1, 5, none⟩ = some (.slice q.i.1 q.i.2.1 q.i.2.2) ∧ W.cell? ⟨w.heap.size + 1, 6, none⟩ = some (.slice q.f.1 q.f.2.1 q.f.2.2) ∧ W.cell? ⟨w.heap.size + 1, 7, none⟩ = some (.slice q.c.1 q.c.2.1 q.c.2.2) ∧ W.cell? ⟨w.heap.size + 1, 8, none⟩ = some (.slice q.x.1 q.x.2.1 q.x.2.2))) ∧ A2 w W h1 p h2 q := ⟨⟨h.one.c, h.two.c⟩, h⟩
def FrMid (w : World) (h1 : Sl) (p : V8) (h2 : Sl) (q : V8) (x y : Bool) (u v : Value) (W : World) : Prop := u = .bool x ∧ v = .bool y ∧ A2 w W h1 p h2 q
theorem frMid_of {w W : World} {h1 h2 : Sl} {p q : V8} {x y : Bool} (h : A2 w W h1 p h2 q) : FrMid w h1 p h2 q x y (.bool x) (.bool y) W := ⟨rfl, rfl, h⟩
def FrR (a b : PA) (h1 h2 : Sl) (w : World) (e : Ending) (w' : World) : Prop :=
 (((frameE a b).1 = 0 ∧ ∃ s : Sl, e = .returned (.tuple #[sv s, .int .i64 0]) ∧ ((s = h1 ∧ (frameE a b).2 = a.shape) ∨ (s = h2 ∧ (frameE a b).2 = b.shape))) ∨ ((frameE a b).1 ≠ 0 ∧ e = .returned (.tuple #[vnil, .int .i64 (frameE a b).1]))) ∧ Below w.heap.size w w'
theorem frR_a {a b : PA} {h1 h2 : Sl} {w w' : World} (e : frameE a b = (0, a.shape)) (hb : Below w.heap.size w w') : FrR a b h1 h2 w (.returned (.tuple #[sv h1, .int .i64 0])) w' := ⟨.inl ⟨by rw [e], h1, rfl, .inl ⟨rfl, by rw [e]⟩⟩, hb⟩
theorem frR_b {a b : PA} {h1 h2 : Sl} {w w' : World} (e : frameE a b = (0, b.shape)) (hb : Below w.heap.size w w') : FrR a b h1 h2 w (.returned (.tuple #[sv h2, .int .i64 0])) w' := ⟨.inl ⟨by rw [e], h2, rfl, .inr ⟨rfl, by rw [e]⟩⟩, hb⟩
theorem frR_e {a b : PA} {h1 h2 : Sl} {w w' : World} {z : Int} (e : frameE a b = (z, [])) (hz : z ≠ 0) (hb : Below w.heap.size w w') : FrR a b h1 h2 w (.returned (.tuple #[vnil, .int .i64 z])) w' := ⟨.inr ⟨by rw [e]; exact hz, by rw [e]⟩, hb⟩
theorem AV.shp {H : Nat → Prop} {w : World} {a : PA} {h : Sl} {p : V8} (g : AV H w a h p) : ShV H w h a.shape := by
 cases a <;> (rw [AV] at g; exact g.1)
set_option maxRecDepth 100000 in
set_option maxHeartbeats 4000000 in
theorem frame_any {Ha Hb : Nat → Prop} {a b : PA} {h1 h2 : Sl} {p q : V8} (w : World) (ga : AV Ha w a h1 p) (gb : AV Hb w b h2 q) (sa : a.shape.length ≤ 1048576) (sb : b.shape.length ≤ 1048576) :
  Calls Tryz.prog 20 #[arrV h1 p, arrV h2 q] w (FrR a b h1 h2 w) := by
 obtain ⟨x, hx⟩ : ∃ x, x = ((a.len : Int) == 1) := ⟨_, rfl⟩
 obtain ⟨y, hy⟩ : ∃ y, y = ((b.len : Int) == 1) := ⟨_, rfl⟩
 have HSA := Lib.hid (fun W (hs : A2 w W h1 p h2 q) => single_any (AV.step ga hs.bel))
 have HSB := Lib.hid (fun W (hs : A2 w W h1 p h2 q) => single_any (AV.step gb hs.bel))
 have HSM := Lib.hid (fun W (hs : A2 w W h1 p h2 q) => shSame_any ga.shp gb.shp sa sb W hs.bel)
 rw [← hx] at HSA
 rw [← hy] at HSB
 have HL1 : Hid (h1.2.1 = a.shape.length) := ga.shp.len
 have HL2 : Hid (h2.2.1 = b.shape.length) := gb.shp.len
 have HX : Hid (x = true ↔ a.len = 1) := by unfold Hid; rw [hx]; simp; omega
 have HY : Hid (y = true ↔ b.len = 1) := by unfold Hid; rw [hy]; simp; omega
 have HS0 := Lib.hid (A2.new w h1 h2 p q)
 clear ga gb hx hy sa sb
 go_enter Tryz.func20, Tryz.ntmps20
 go_wp2_with fail
 obtain ⟨w0, hw0⟩ : ∃ w0, w0 = (w.alloc (arrO h1 p)).alloc (arrO h2 q) := ⟨_, rfl⟩
 rw [← hw0] at HS0 ⊢
 clear hw0
 skip
 go_cut [6, 7] from 8 (fun u v wx => FrMid w h1 p h2 q x y u v wx)
 case first =>
  have hs0 := HS0.out.dr
  have hs00 := HS0.out
  go_region_held3 (fun W => ((W.cell? ⟨w.heap.size, 0, none⟩ = some (.slice h1.1 h1.2.1 h1.2.2) ∧ W.cell? ⟨w.heap.size, 1, none⟩ = some (.int .i64 p.k) ∧ W.cell? ⟨w.heap.size, 2, none⟩ = some (.slice p.b.1 p.b.2.1 p.b.2.2) ∧ W.cell? ⟨w.heap.size, 3, none⟩ = some (.int .i64 p.bn) ∧ W.cell? ⟨w.heap.size, 4, none⟩ = some (.slice p.s.1 p.s.2.1 p.s.2.2) ∧ W.cell? ⟨w.heap.size, 5, none⟩ = some (.slice p.i.1 p.i.2.1 p.i.2.2) ∧ W.cell? ⟨w.heap.size, 6, none⟩ = some (.slice p.f.1 p.f.2.1 p.f.2.2) ∧ W.cell? ⟨w.heap.size, 7, none⟩ = some (.slice p.c.1 p.c.2.1 p.c.2.2) ∧ W.cell? ⟨w.heap.size, 8, none⟩ = some (.slice p.x.1 p.x.2.1 p.x.2.2)) ∧ (W.cell? ⟨w.heap.size + 1, 0, none⟩ = some (.slice h2.1 h2.2.1 h2.2.2) ∧ W.cell? ⟨w.heap.size + 1, 1, none⟩ = some (.int .i64 q.k) ∧ W.cell? ⟨w.heap.size + 1, 2, none⟩ = some (.slice q.b.1 q.b.2.1 q.b.2.2) ∧ W.cell? ⟨w.heap.size + 1, 3, none⟩ = some (.int .i64 q.bn) ∧ W.cell? ⟨w.heap.size + 1, 4, none⟩ = some (.slice q.s.1 q.s.2.1 q.s.2.2) ∧ W.cell? ⟨w.heap.size + 1, 5, none⟩ = some (.slice q.i.1 q.i.2.1 q.i.2.2) ∧ W.cell? ⟨w.heap.size + 1, 6, none⟩ = some (.slice q.f.1 q.f.2.1 q.f.2.2) ∧ W.cell? ⟨w.heap.size + 1, 7, none⟩ = some (.slice q.c.1 q.c.2.1 q.c.2.2) ∧ W.cell? ⟨w.heap.size + 1, 8, none⟩ = some (.slice q.x.1 q.x.2.1 q.x.2.2))) ∧ A2 w W h1 p h2 q)
   (first | (with_reducible assumption) | (with_reducible (refine a2_s ?_); repeat (first | (with_reducible assumption) | (with_reducible refine A2.dr ?_))))
   (first
    | (go_at_call 42; (with_reducible refine (HSA.out _ ?_).mono ?_); exact A2.self (by repeat (first | (with_reducible assumption) | (with_reducible refine A2.dr ?_))); rintro e w1 ⟨rfl, hb1⟩; obtain ⟨hc1, hf1⟩ := bcell2 hb1; have hz1 := hb1.size; have hst1 : A2 w w1 h1 p h2 q := A2.step (by repeat (first | (with_reducible assumption) | (with_reducible refine A2.dr ?_))) hb1; clear hb1)
    | (go_at_call 42; (with_reducible refine (HSB.out _ ?_).mono ?_); exact A2.self (by repeat (first | (with_reducible assumption) | (with_reducible refine A2.dr ?_))); rintro e w2 ⟨rfl, hb2⟩; obtain ⟨hc2, hf2⟩ := bcell2 hb2; have hz2 := hb2.size; have hst2 : A2 w w2 h1 p h2 q := A2.step (by repeat (first | (with_reducible assumption) | (with_reducible refine A2.dr ?_))) hb2; clear hb2))
  all_goals
   go_wp2
   go_meet
   (with_reducible exact frMid_of hst2)
 obtain ⟨rfl, rfl, hst⟩ := hcut
 have HST := Lib.hid hst
 clear hst HS0 HSA HSB
 obtain ⟨A1, n1, c1⟩ := h1
 obtain ⟨B1, n2, c2⟩ := h2
 obtain ⟨d0, d1, d2, d3, d4, d5, d6, d7, d8⟩ := HST.out.one.c
 obtain ⟨g0, g1, g2, g3, g4, g5, g6, g7, g8⟩ := HST.out.two.c
 dsimp only [sv] at HL1 HL2 HSM
 cases x with
 | true =>
  have hla := HX.out.1 rfl
  cases y with
  | true =>
   have hlb := HY.out.1 rfl
   by_cases hge : n2 ≤ n1
   ·have e : frameE a b = (0, a.shape) := by unfold frameE; rw [if_pos ⟨hla, hlb, by rw [← HL1.out, ← HL2.out]; exact hge⟩]
    have hge2 : (n2 : Int) ≤ (n1 : Int) := by omega
    have HE := Lib.hid e
    clear e hla hlb hge
    go_wp2
    go_ret2
    exact frR_a (h1 := (A1, n1, c1)) HE.out HST.out.bel
   ·have e : frameE a b = (0, b.shape) := by unfold frameE; rw [if_neg (by rw [← HL1.out, ← HL2.out]; exact fun h => hge h.2.2), if_pos hla]
    have hge2 : ¬ (n2 : Int) ≤ (n1 : Int) := by omega
    have HE := Lib.hid e
    clear e hla hlb hge
    go_wp2
    go_ret2
    exact frR_b (h2 := (B1, n2, c2)) HE.out HST.out.bel
  | false =>
   have hlb : ¬ b.len = 1 := fun h => by have := HY.out.2 h; cases this
   have e : frameE a b = (0, b.shape) := by unfold frameE; rw [if_neg (fun h => hlb h.2.1), if_pos hla]
   have HE := Lib.hid e
   clear e hla hlb
   go_wp2
   go_ret2
   exact frR_b (h2 := (B1, n2, c2)) HE.out HST.out.bel
 | false =>
  have hla : ¬ a.len = 1 := fun h => by have := HX.out.2 h; cases this
  cases y with
  | true =>
   have hlb := HY.out.1 rfl
   have e : frameE a b = (0, a.shape) := by unfold frameE; rw [if_neg (fun h => hla h.1), if_neg hla, if_pos hlb]
   have HE := Lib.hid e
   clear e hla hlb
   go_wp2
   go_ret2
   exact frR_a (h1 := (A1, n1, c1)) HE.out HST.out.bel
  | false =>
   have hlb : ¬ b.len = 1 := fun h => by have := HY.out.2 h; cases this
   have e0 : frameE a b = if a.shape.length ≠ b.shape.length then (22, []) else if a.shape ≠ b.shape then (23, []) else (0, a.shape) := by unfold frameE; rw [if_neg (fun h => hla h.1), if_neg hla, if_neg hlb]
   by_cases hn : n1 = n2
   ·by_cases hs : a.shape = b.shape
    ·have e : frameE a b = (0, a.shape) := by rw [e0, if_neg (by rw [← HL1.out, ← HL2.out]; simpa using hn), if_neg (by simpa using hs)]
     have hne : ((n1 : Int) != (n2 : Int)) = false := by simp; omega
     have HE := Lib.hid e
     have hds : decide (a.shape = b.shape) = true := by simpa using hs
     rw [hds] at HSM
     clear e e0 hla hlb hn hs hds
     go_wp2_with fail
     refine (HSM.out _ HST.out).mono ?_
     rintro e w3 ⟨rfl, hb3⟩
     have HS3 := Lib.hid (HST.out.step hb3)
     clear hb3 d0 d1 d2 d3 d4 d5 d6 d7 d8 g0 g1 g2 g3 g4 g5 g6 g7 g8
     obtain ⟨d0, d1, d2, d3, d4, d5, d6, d7, d8⟩ := HS3.out.one.c
     go_wp2
     go_ret2
     exact frR_a (h1 := (A1, n1, c1)) HE.out HS3.out.bel
    ·have e : frameE a b = (23, []) := by rw [e0, if_neg (by rw [← HL1.out, ← HL2.out]; simpa using hn), if_pos (by simpa using hs)]
     have hne : ((n1 : Int) != (n2 : Int)) = false := by simp; omega
     have HE := Lib.hid e
     have hds : decide (a.shape = b.shape) = false := by simpa using hs
     rw [hds] at HSM
     clear e e0 hla hlb hn hs hds
     go_wp2_with fail
     refine (HSM.out _ HST.out).mono ?_
     rintro e w3 ⟨rfl, hb3⟩
     have HS3 := Lib.hid (HST.out.step hb3)
     clear hb3 d0 d1 d2 d3 d4 d5 d6 d7 d8 g0 g1 g2 g3 g4 g5 g6 g7 g8
     go_wp2
     go_ret2
     exact frR_e HE.out (by decide) HS3.out.bel
   ·have e : frameE a b = (22, []) := by rw [e0, if_pos (by rw [← HL1.out, ← HL2.out]; simpa using hn)]
    have hne : ((n1 : Int) != (n2 : Int)) = true := by simp; omega
    have HE := Lib.hid e
    clear e e0 hla hlb hn
    go_wp2
    go_ret2
    exact frR_e HE.out (by decide) HST.out.bel
theorem store_bool {w : World} {a : Addr} {y : Value} (hc : w.cell? a = some y) (hf : w.frozen? a = false) (x : Bool) (m : Mode) : (store a (.bool x) m).run Tryz.prog w = .ok () (w.setCell a (.bool x)) := by
 rw [run_store Tryz.prog w a _ m rfl, hc]
 simp [hf]
theorem rl_put {w W : World} {p q : V8} {f : Nat → Value} {N c : Nat} {u : Value} (h : Ar2 w p q 4 f (.bool false) N c W) (hc : c < N) (hu : f c = u) : Ar2 w p q 4 f (.bool false) N (c + 1) (W.setCell ⟨w.heap.size + 3, c, none⟩ u) := by rw [← hu]; exact h.put hc
set_option maxRecDepth 100000 in
set_option maxHeartbeats 4000000 in
theorem rnumbers_any (H : Nat → Prop) (f : Int) (R : Nat → Bool) (p q : V8) (m n N : Nat) (F G : Nat → Nat) (w : World) (hH : ∀ b, H b → b < w.heap.size) (hL : lenP m n = some N) (hm : m ≤ 1000000) (hn : n ≤ 1000000)
  (hP : ∀ W, Below w.heap.size w W → NumW p.v m F W) (hQ : ∀ W, Below w.heap.size w W → NumW q.v n G W)
  (hone : ∀ c, c < N → ∀ W, Calls Tryz.prog 107 #[.int .i64 f, .float .f64 (F (ixP m c)), .float .f64 (G (ixP n c))] W fun e w' => e = .returned (.tuple #[.bool (R c), .int .i64 0]) ∧ W = w') :
  Calls Tryz.prog 73 #[.int .i64 f, .int .i64 (N : Int), p.v, q.v] w (VecR H w (fun u W => NumV u 1 N (fun c => flagF (R c)) W)) := by
 have hNb : N ≤ 1000000 := lenP_le hL hm hn
 have HP := Lib.hid hP
 have HQ := Lib.hid hQ
 have HONE := Lib.hid hone
 have HH := Lib.hid hH
 have HIX := Lib.hid (fun c (hc : c < N) => ixP_lt hL hc)
 have hmk := run_make_row' (P := Tryz.prog) 91 4 (.bool false) 1 Tryz.underlying91 info_bool rfl .i64 .i64 N (by omega) (by omega)
 obtain ⟨ff, hff⟩ : ∃ ff : Nat → Value, ff = fun c => .bool (R c) := ⟨_, rfl⟩
 have HFF : Hid (∀ c, ff c = .bool (R c)) := fun c => by rw [hff]
 clear hff
 have HA0 := Lib.hid (Ar2.new w p q 4 ff (.bool false) N (by unfold maxLen; omega))
 clear hP hQ hone hH hL
 go_enter Tryz.func73, Tryz.ntmps73
 go_wp2
 go_loopw [15] (fun j wr => ∃ c : Nat, c ≤ N ∧ j = .int .i64 c ∧ Ar2 w p q 4 ff (.bool false) N c wr) (fun j _ => N - (intOf j).toNat)
 case atStart => exact ⟨0, Nat.zero_le _, rfl, HA0.out⟩
 case round =>
  clear HA0
  obtain ⟨c, hc, rfl, har⟩ := hrel
  have HAR := Lib.hid har
  clear har
  by_cases hlt : c < N
  ·obtain ⟨hi1, hi2⟩ := HIX.out c hlt
   have HAP := Lib.hid (fun W (hs : Ar2 w p q 4 ff (.bool false) N c W) => rat_any p m c W (fun W' hb => (HP.out W' (bel_both hs.st.bel hb)).len))
   have HAQ := Lib.hid (fun W (hs : Ar2 w p q 4 ff (.bool false) N c W) => rat_any q n c W (fun W' hb => (HQ.out W' (bel_both hs.st.bel hb)).len))
   have HNP := Lib.hid (fun W (hs : Ar2 w p q 4 ff (.bool false) N c W) => (HP.out W hs.st.bel).num (ixP m c) hi1)
   have HNQ := Lib.hid (fun W (hs : Ar2 w p q 4 ff (.bool false) N c W) => (HQ.out W hs.st.bel).num (ixP n c) hi2)
   have HO := Lib.hid (HONE.out c hlt)
   have HFC := Lib.hid (HFF.out c)
   clear hi1 hi2
   generalize R c = y at HO HFC
   generalize F (ixP m c) = xa at *
   generalize G (ixP n c) = xb at *
   generalize ixP m c = ia at *
   generalize ixP n c = ib at *
   go_upto_block 1 with fail
   go_cut [10] from 17 to 36 (fun x wx => x = .int .i64 (c : Int) ∧ Ar2 w p q 4 ff (.bool false) N (c + 1) wx)
   case first =>
    go_wp2_with fail
    have hs0 := HAR.out.dr
    have hs00 := HAR.out
    have hss0 := hs0.st
    have hss00 := hs00.st
    have hrc := HAR.out.fill.cell hlt
    have hrf := HAR.out.fill.frozen c
    have hrz : w.heap.size + 3 < wr.heap.size := HAR.out.fill.low.2
    go_region_held3 (fun W => ((W.cell? ⟨w.heap.size, 0, none⟩ = some (.int .i64 p.k) ∧ W.cell? ⟨w.heap.size, 1, none⟩ = some (.slice p.b.1 p.b.2.1 p.b.2.2) ∧ W.cell? ⟨w.heap.size, 2, none⟩ = some (.int .i64 p.bn) ∧ W.cell? ⟨w.heap.size, 3, none⟩ = some (.slice p.s.1 p.s.2.1 p.s.2.2) ∧ W.cell? ⟨w.heap.size, 4, none⟩ = some (.slice p.i.1 p.i.2.1 p.i.2.2) ∧ W.cell? ⟨w.heap.size, 5, none⟩ = some (.slice p.f.1 p.f.2.1 p.f.2.2) ∧ W.cell? ⟨w.heap.size, 6, none⟩ = some (.slice p.c.1 p.c.2.1 p.c.2.2) ∧ W.cell? ⟨w.heap.size, 7, none⟩ = some (.slice p.x.1 p.x.2.1 p.x.2.2)) ∧ (W.cell? ⟨w.heap.size + 1, 0, none⟩ = some (.int .i64 q.k) ∧ W.cell? ⟨w.heap.size + 1, 1, none⟩ = some (.slice q.b.1 q.b.2.1 q.b.2.2) ∧ W.cell? ⟨w.heap.size + 1, 2, none⟩ = some (.int .i64 q.bn) ∧ W.cell? ⟨w.heap.size + 1, 3, none⟩ = some (.slice q.s.1 q.s.2.1 q.s.2.2) ∧ W.cell? ⟨w.heap.size + 1, 4, none⟩ = some (.slice q.i.1 q.i.2.1 q.i.2.2) ∧ W.cell? ⟨w.heap.size + 1, 5, none⟩ = some (.slice q.f.1 q.f.2.1 q.f.2.2) ∧ W.cell? ⟨w.heap.size + 1, 6, none⟩ = some (.slice q.c.1 q.c.2.1 q.c.2.2) ∧ W.cell? ⟨w.heap.size + 1, 7, none⟩ = some (.slice q.x.1 q.x.2.1 q.x.2.2))) ∧ St2 w W p q)
     (first | (with_reducible assumption) | (with_reducible (refine st2_s ?_); repeat (first | (with_reducible assumption) | (with_reducible refine St2.dr ?_) | (with_reducible refine St2.put ?_ (by first | assumption | omega | (simp; omega)) _))))
     (first
      | (go_at_call 107; (with_reducible refine (HO.out _).mono ?_); rintro e w5 ⟨rfl, rfl⟩)
      | (go_at_call 104; (with_reducible refine (HAP.out _ ?_).mono ?_); exact Ar2.self (by repeat (first | (with_reducible assumption) | (with_reducible refine Ar2.dr ?_))); rintro e w1 ⟨rfl, hb1⟩; obtain ⟨hc1, hf1⟩ := bcell2 hb1; have hz1 := hb1.size; have hst1 : Ar2 w p q 4 ff (.bool false) N c w1 := Ar2.step (by repeat (first | (with_reducible assumption) | (with_reducible refine Ar2.dr ?_))) hb1; have hss1 : St2 w w1 p q := hst1.st; have hcr1 := hst1.fill.cell hlt; have hfr1 := hst1.fill.frozen c; clear hb1)
      | (go_at_call 104; (with_reducible refine (HAQ.out _ ?_).mono ?_); exact Ar2.self (by repeat (first | (with_reducible assumption) | (with_reducible refine Ar2.dr ?_))); rintro e w2 ⟨rfl, hb2⟩; obtain ⟨hc2, hf2⟩ := bcell2 hb2; have hz2 := hb2.size; have hst2 : Ar2 w p q 4 ff (.bool false) N c w2 := Ar2.step (by repeat (first | (with_reducible assumption) | (with_reducible refine Ar2.dr ?_))) hb2; have hss2 : St2 w w2 p q := hst2.st; have hcr2 := hst2.fill.cell hlt; have hfr2 := hst2.fill.frozen c; clear hb2)
      | (go_at_call 57; (with_reducible refine (HNP.out _ ?_).mono ?_); exact Ar2.self (by repeat (first | (with_reducible assumption) | (with_reducible refine Ar2.dr ?_))); rintro e w3 ⟨rfl, hb3⟩; obtain ⟨hc3, hf3⟩ := bcell2 hb3; have hz3 := hb3.size; have hst3 : Ar2 w p q 4 ff (.bool false) N c w3 := Ar2.step (by repeat (first | (with_reducible assumption) | (with_reducible refine Ar2.dr ?_))) hb3; have hss3 : St2 w w3 p q := hst3.st; have hcr3 := hst3.fill.cell hlt; have hfr3 := hst3.fill.frozen c; clear hb3)
      | (go_at_call 57; (with_reducible refine (HNQ.out _ ?_).mono ?_); exact Ar2.self (by repeat (first | (with_reducible assumption) | (with_reducible refine Ar2.dr ?_))); rintro e w4 ⟨rfl, hb4⟩; obtain ⟨hc4, hf4⟩ := bcell2 hb4; have hz4 := hb4.size; have hst4 : Ar2 w p q 4 ff (.bool false) N c w4 := Ar2.step (by repeat (first | (with_reducible assumption) | (with_reducible refine Ar2.dr ?_))) hb4; have hss4 : St2 w w4 p q := hst4.st; have hcr4 := hst4.fill.cell hlt; have hfr4 := hst4.fill.frozen c; clear hb4))
    all_goals
     go_wp2
     go_meet
     first
      | (with_reducible exact ⟨rfl, rl_put hst4 hlt HFC.out⟩)
      | (with_reducible exact ⟨rfl, rl_put hst3 hlt HFC.out⟩)
      | (with_reducible exact ⟨rfl, rl_put hst2 hlt HFC.out⟩)
      | (with_reducible exact ⟨rfl, rl_put hst1 hlt HFC.out⟩)
   case rest =>
    obtain ⟨rfl, har⟩ := hcut
    have HAR2 := Lib.hid har
    clear har HAR HAP HAQ HNP HNQ HO
    go_wp2
    go_roundw
    case rel => exact ⟨c + 1, by omega, by go_num, HAR2.out⟩
    case measure => simp [intOf]; omega
  ·obtain rfl : c = N := by omega
   have HPK := Lib.hid (pack_any (w.heap.size + 3) 0 c c R (by omega) (Nat.le_refl _) wr (fun i hi => by
    rw [Nat.zero_add, HAR.out.fill.done i hi (Nat.le_refl _), HFF.out]))
   go_wp2_with fail
   refine HPK.out.mono ?_
   rintro e w5 ⟨gg, rfl, hr5, hb5⟩
   have HS5 := Lib.hid (HAR.out.st.step hb5)
   have HGW : Hid (wr.heap.size ≤ gg) := hr5.low.1
   have HGS : Hid (w.heap.size + 3 ≤ wr.heap.size) := HAR.out.st.sz
   have HR5 := Lib.hid hr5
   clear hb5 hr5
   go_wp2_with fail
   refine (vbits_any _ _ _ _ _).mono ?_
   rintro e w6 ⟨rfl, hb6⟩
   have HS6 := Lib.hid (HS5.out.step hb6)
   have HR6 := Lib.hid (HR5.out.below hb6)
   clear hb6
   have HRE := Lib.hid (set8_block HS6.out.res (.int .i64 1) (.slice (some ⟨gg, 0, none⟩) ((c + 63) / 64) ((c + 63) / 64)) (.int .i64 (c : Int)) vnil vnil vnil vnil vnil)
   have HBE := Lib.hid (below_set8 HS6.out.bel (Nat.le_add_right _ 2) (.int .i64 1) (.slice (some ⟨gg, 0, none⟩) ((c + 63) / 64) ((c + 63) / 64)) (.int .i64 (c : Int)) vnil vnil vnil vnil vnil)
   have HKE : Hid (Keeps H (set8 w6 (w.heap.size + 2) (.int .i64 1) (.slice (some ⟨gg, 0, none⟩) ((c + 63) / 64) ((c + 63) / 64)) (.int .i64 (c : Int)) vnil vnil vnil vnil vnil) (NumV (vecW 1 (some ⟨gg, 0, none⟩, (c + 63) / 64, (c + 63) / 64) (c : Int) (none, 0, 0) (none, 0, 0) (none, 0, 0) (none, 0, 0) (none, 0, 0)) 1 c (fun c => flagF (R c)))) := by
    have h1 : Keeps (fun j => H j ∨ j = w.heap.size + 2) w6 (fun W => Reads1 W (.slice (some ⟨gg, 0, none⟩) ((c + 63) / 64) ((c + 63) / 64)) ((List.range ((c + 63) / 64)).map fun j => .int .u64 (packW R c j : Nat))) :=
     Own1.keepsH HR6.out (fun j e => by
      have h1 := HGW.out
      have h2 := HGS.out
      rcases e with e | e
      ·have := HH.out j e; omega
      ·omega)
    refine ((h1.imp fun W' h => numV_bits (by omega) ⟨_, rfl, ⟨gg, 0, _, rfl, fun j hj => ?_⟩⟩).set8 (.inr rfl) _ _ _ _ _ _ _ _).sub fun _ _ e => .inl e
    exact reads_cell h j hj
   clear HR5 HR6
   obtain ⟨⟨h0, h1, h2, h3, h4, h5, h6, h7⟩, hz⟩ := boxed_of HS6.out.res
   go_wp2
   refine bodyPost_ret (ret_vec rfl _ _ _ rfl HRE.out) rfl ?_
   exact ⟨1, (some ⟨gg, 0, none⟩, (c + 63) / 64, (c + 63) / 64), (c : Int), (none, 0, 0), (none, 0, 0), (none, 0, 0), (none, 0, 0), (none, 0, 0), rfl, HKE.out, HBE.out⟩
end Go.Proofs.YtiahegjdkejjpaaGreat
