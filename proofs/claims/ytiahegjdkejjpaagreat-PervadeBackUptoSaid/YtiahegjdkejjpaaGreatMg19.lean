/- Merged texts. The walks of relate.spread and relate.at, of vec.Bits. Conditions: as each theorem says. The walks of (vec.Vec).Arrays, of slices.ContainsFunc over arrays, and of value.Good at good arrays. Conditions: at most 1000000 elements. -/
import Derived.Test.YtiahegjdkejjpaaGreatMg16
import Derived.Test.YtiahegjdkejjpaaGreatMg18
import Derived.Test.YtiahegjdkejjpaaGreatMg08
import Derived.Test.YtiahegjdkejjpaaGreatMg15
import Derived.Test.YtiahegjdkejjpaaGreatMg14
import Derived.Test.YtiahegjdkejjpaaGreatMg12
import Derived.Test.YtiahegjdkejjpaaGreatMg03
namespace Go.Proofs.YtiahegjdkejjpaaGreat
open Go Go.RowKit Go.Proofs Fl

/-- packed truths that can be read, said by their header -/
def BitsAt (W : World) (b : Sl) (n : Nat) (L : Nat → Bool) : Prop :=
  ∃ g o c, b = (some ⟨g, o, none⟩, (n + 63) / 64, c) ∧ ∀ j, j < (n + 63) / 64 → W.cell? ⟨g, o + j, none⟩ = some (.int .u64 (packW L n j : Nat))
theorem BitsAt.below {W W' : World} {b : Sl} {n : Nat} {L : Nat → Bool} (h : BitsAt W b n L) (hb : Below W.heap.size W W') : BitsAt W' b n L := by
  obtain ⟨g, o, c, e, hc⟩ := h
  exact ⟨g, o, c, e, fun j hj => by rw [hb.cell (cell_lt (hc j hj))]; exact hc j hj⟩
theorem BitsAt.row {W : World} {B g n : Nat} {L : Nat → Bool} (h : RowU W B g ((n + 63) / 64) (packW L n)) : BitsAt W (some ⟨g, 0, none⟩, (n + 63) / 64, (n + 63) / 64) n L :=
  ⟨g, 0, _, rfl, fun j hj => by rw [Nat.zero_add]; exact h.cell hj⟩
theorem BitsAt.in {W : World} {b : Sl} {n : Nat} {L : Nat → Bool} (h : BitsAt W b n L) : BitsIn W (.agg #[.slice b.1 b.2.1 b.2.2, .int .i64 (n : Int)]) n L := by
  obtain ⟨g, o, c, rfl, hc⟩ := h
  exact ⟨g, o, c, rfl, hc⟩
/-- a Vec in the store of truths: its words -/
theorem NumV.bits {b : Sl} {bn : Int} {s i f g x : Sl} {m : Nat} {F : Nat → Nat} {w : World} (h : NumV (vecW 1 b bn s i f g x) 1 m F w) : bn = (m : Int) ∧ ∃ L, BitsAt w b m L ∧ ∀ j, j < m → F j = flagF (L j) := by
  obtain ⟨l, s', e, hb, hf⟩ := h.bitsX rfl
  injection e with e
  have e1 := congrArg (fun a : Array Value => a.getD 1 undef) e
  have e2 := congrArg (fun a : Array Value => a.getD 2 undef) e
  have e1' : Value.slice b.1 b.2.1 b.2.2 = s' := e1
  have e2' : Value.int .i64 bn = .int .i64 (m : Int) := e2
  injection e2' with _ e3
  refine ⟨e3, l, ?_, hf⟩
  obtain ⟨g2, o, c, ev, hc⟩ := hb
  injection ev with ev
  have e4 := congrArg (fun a : Array Value => a.getD 0 undef) ev
  have e4' : s' = .slice (some ⟨g2, o, none⟩) ((m + 63) / 64) c := e4
  rw [← e1'] at e4'
  injection e4' with h1 h2 h3
  exact ⟨g2, o, c, by rw [← h1, ← h2, ← h3], hc⟩

/-- what relate.spread tells: so many truths, or that they aren't kept as such -/
def SpOut (k : Int) (m N : Nat) (F : Nat → Nat) (w : World) (e : Ending) (w' : World) : Prop :=
  (k = 1 ∧ ∃ (b : Sl) (L : Nat → Bool), e = .returned (.tuple #[.agg #[.slice b.1 b.2.1 b.2.2, .int .i64 (N : Int)], .bool true]) ∧ BitsAt w' b N L ∧ (∀ j, j < N → F (ixP m j) = flagF (L j)) ∧ Below w.heap.size w w') ∨
  (k ≠ 1 ∧ e = .returned (.tuple #[.agg #[vnil, .int .i64 0], .bool false]) ∧ Below w.heap.size w w')

/-- own blocks of a function that takes a Vec and answers packed truths -/
structure Sb (w W : World) (p : V8) : Prop where
  one : BoxP W w.heap.size p
  res : W.heap[w.heap.size + 1]? = some (.cells bcells 31)
  bel : Below w.heap.size w W
theorem Sb.step {w W W' : World} {p : V8} (h : Sb w W p) (hb : Below W.heap.size W W') : Sb w W' p :=
  ⟨h.one.below hb, by rw [hb.block _ (lt_of_block h.res)]; exact h.res, bel_both h.bel hb⟩
theorem Sb.new (w : World) (p : V8) : Sb w ((w.alloc p.o).alloc (.cells bcells 31)) p := by
  have h2 := heap_alloc_new (w.alloc p.o) (.cells bcells 31)
  have e1 : (w.alloc p.o).heap.size = w.heap.size + 1 := by simp
  rw [e1] at h2
  exact ⟨(boxP_new w p).below (bel1 _ _), h2, bel2 w _ _⟩
theorem Sb.sz {w W : World} {p : V8} (h : Sb w W p) : w.heap.size + 1 < W.heap.size := lt_of_block h.res

set_option maxRecDepth 100000 in
set_option maxHeartbeats 1000000 in
theorem spread_no (k : Int) (hk : k ≠ 1) (b : Sl) (bn : Int) (s i f g x : Sl) (m N : Nat) (F : Nat → Nat) (w : World) :
    Calls Tryz.prog 69 #[vecW k b bn s i f g x, .int .i64 (N : Int)] w (SpOut k m N F w) := by
  have HP := Lib.hid (fun W => packed_no k hk (.slice b.1 b.2.1 b.2.2) bn (.slice s.1 s.2.1 s.2.2) (.slice i.1 i.2.1 i.2.2) (.slice f.1 f.2.1 f.2.2) (.slice g.1 g.2.1 g.2.2) (.slice x.1 x.2.1 x.2.2) W)
  have HS0 := Lib.hid (Sb.new w ⟨k, b, bn, s, i, f, g, x⟩)
  have HK := Lib.hid hk
  clear hk
  go_enter Tryz.func69, Tryz.ntmps69
  obtain ⟨h0, h1, h2, h3, h4, h5, h6, h7⟩ := HS0.out.one
  go_wp2_with fail
  refine (HP.out _).mono ?_
  rintro e w1 ⟨rfl, hb1⟩
  have HS1 := Lib.hid (HS0.out.step hb1)
  have z1 : w.heap.size + 1 < w1.heap.size := HS1.out.sz
  have HKE := Lib.hid (set2_block HS1.out.res vnil (.int .i64 0))
  clear hb1 h0 h1 h2 h3 h4 h5 h6 h7
  obtain ⟨hk0, hk1, hkf⟩ := pair_of HS1.out.res
  go_wp2
  refine bodyPost_ret (v := .tuple #[.agg #[vnil, .int .i64 0], .bool false]) ?_ rfl (.inr ⟨HK.out, rfl, bel_both (below_set2 HS1.out.bel (Nat.le_succ _) _ _) (bel1 _ _)⟩)
  exact ret_bits2 (fn := Tryz.f69) (p := 4) (u := 5) rfl _ _ (w.heap.size + 1) (by rfl) ((Below.heap_alloc _ _ _ (lt_of_block HKE.out)).trans HKE.out)

set_option maxRecDepth 100000 in
set_option maxHeartbeats 1000000 in
/-- the truths are told as they are -/
theorem spread_same (b : Sl) (bn : Int) (s i f g x : Sl) (m N : Nat) (F : Nat → Nat) (w : World) (hmN : m = N) (hN : NumV (vecW 1 b bn s i f g x) 1 m F w) :
    Calls Tryz.prog 69 #[vecW 1 b bn s i f g x, .int .i64 (N : Int)] w (SpOut 1 m N F w) := by
  subst hmN
  obtain ⟨rfl, L, hL, hF⟩ := hN.bits
  have HLW := Lib.hid hL
  have HF : Hid (∀ j, j < m → F (ixP m j) = flagF (L j)) := fun j hj => by
    have e : ixP m j = j := by unfold ixP; split <;> omega
    rw [e]; exact hF j hj
  have HP := Lib.hid (fun W => packed_yes b (m : Int) (.slice s.1 s.2.1 s.2.2) (.slice i.1 i.2.1 i.2.2) (.slice f.1 f.2.1 f.2.2) (.slice g.1 g.2.1 g.2.2) (.slice x.1 x.2.1 x.2.2) W)
  have HBL := Lib.hid (fun W => blen_any (.slice b.1 b.2.1 b.2.2) (m : Int) W)
  have HS0 := Lib.hid (Sb.new w ⟨1, b, (m : Int), s, i, f, g, x⟩)
  clear hL hF hN
  have hcase : (((m : Int) == 1) = true ∧ ((m : Int) != 1) = false) ∨ ((m : Int) == 1) = false := by
    by_cases h1 : m = 1
    · left; subst h1; exact ⟨rfl, rfl⟩
    · right; simp; omega
  rcases hcase with ⟨e1, e2⟩ | e1
  all_goals
    go_enter Tryz.func69, Tryz.ntmps69
    obtain ⟨h0, h1, h2, h3, h4, h5, h6, h7⟩ := HS0.out.one
    go_wp2_with fail
    refine (HP.out _).mono ?_
    rintro e w1 ⟨rfl, hb1⟩
    have HS1 := Lib.hid (HS0.out.step hb1)
    have z1 : w.heap.size + 1 < w1.heap.size := HS1.out.sz
    clear hb1 h0 h1 h2 h3 h4 h5 h6 h7
    have HS2 := Lib.hid (HS1.out.step (bel1 w1 (.cells #[.slice b.1 b.2.1 b.2.2, .int .i64 (m : Int)] 31)))
    have HV2 := Lib.hid (heap_alloc_new w1 (.cells #[.slice b.1 b.2.1 b.2.2, .int .i64 (m : Int)] 31))
    go_wp2_with fail
    refine (HBL.out _).mono ?_
    rintro e w2 ⟨rfl, hb2⟩
    have HS3 := Lib.hid (HS2.out.step hb2)
    have HV3 := Lib.hid (show w2.heap[w1.heap.size]? = some (.cells #[.slice b.1 b.2.1 b.2.2, .int .i64 (m : Int)] 31) by rw [hb2.block _ (lt_of_block HV2.out)]; exact HV2.out)
    clear hb2
    have HKE := Lib.hid (set2_block HS3.out.res (.slice b.1 b.2.1 b.2.2) (.int .i64 (m : Int)))
    have HBE := Lib.hid (below_set2 HS3.out.bel (Nat.le_succ _) (.slice b.1 b.2.1 b.2.2) (.int .i64 (m : Int)))
    have HLE := Lib.hid (HLW.out.below HBE.out)
    have z2 : w.heap.size + 1 < w2.heap.size := HS3.out.sz
    obtain ⟨hk0, hk1, hkf⟩ := pair_of HS3.out.res
    obtain ⟨hv0, hv1, hvf⟩ := pair_of HV3.out
    go_wp2
    refine bodyPost_ret (v := .tuple #[.agg #[.slice b.1 b.2.1 b.2.2, .int .i64 (m : Int)], .bool true]) ?_ rfl (.inl ⟨rfl, b, L, rfl, HLE.out, HF.out, HBE.out⟩)
    exact ret_bits2 (fn := Tryz.f69) (p := 4) (u := 5) rfl _ _ (w.heap.size + 1) (by rfl) HKE.out

set_option maxRecDepth 100000 in
set_option maxHeartbeats 1000000 in
/-- one truth is told again and again -/
theorem spread_more (b : Sl) (bn : Int) (s i f g x : Sl) (N : Nat) (F : Nat → Nat) (w : World) (hn : N ≤ 1000000) (hN1 : N ≠ 1) (hN : NumV (vecW 1 b bn s i f g x) 1 1 F w) :
    Calls Tryz.prog 69 #[vecW 1 b bn s i f g x, .int .i64 (N : Int)] w (SpOut 1 1 N F w) := by
  obtain ⟨rfl, L, hL, hF⟩ := hN.bits
  have HLW := Lib.hid hL
  have HF : Hid (∀ j, j < N → F (ixP 1 j) = flagF ((fun _ => L 0) j)) := fun j _ => hF 0 (by decide)
  have HP := Lib.hid (fun W => packed_yes b ((1 : Nat) : Int) (.slice s.1 s.2.1 s.2.2) (.slice i.1 i.2.1 i.2.2) (.slice f.1 f.2.1 f.2.2) (.slice g.1 g.2.1 g.2.2) (.slice x.1 x.2.1 x.2.2) W)
  have HBL := Lib.hid (fun W => blen_any (.slice b.1 b.2.1 b.2.2) 1 W)
  have HAT := Lib.hid (fun W (hb : Below w.heap.size w W) => bitV_at (W := W) (n := 1) (by decide) (hL.below hb).in 0 (by decide))
  have HMK := Lib.hid (fun t W => make_any N t (by omega) W)
  have HS0 := Lib.hid (Sb.new w ⟨1, b, ((1 : Nat) : Int), s, i, f, g, x⟩)
  have e1 : ((N : Int) != 1) = true := by simp; omega
  clear hL hF hN hN1
  go_enter Tryz.func69, Tryz.ntmps69
  obtain ⟨h0, h1, h2, h3, h4, h5, h6, h7⟩ := HS0.out.one
  go_wp2_with fail
  refine (HP.out _).mono ?_
  rintro e w1 ⟨rfl, hb1⟩
  have HS1 := Lib.hid (HS0.out.step hb1)
  have z1 : w.heap.size + 1 < w1.heap.size := HS1.out.sz
  clear hb1 h0 h1 h2 h3 h4 h5 h6 h7
  have HS2 := Lib.hid (HS1.out.step (bel1 w1 (.cells #[.slice b.1 b.2.1 b.2.2, .int .i64 ((1 : Nat) : Int)] 31)))
  have HV2 := Lib.hid (heap_alloc_new w1 (.cells #[.slice b.1 b.2.1 b.2.2, .int .i64 ((1 : Nat) : Int)] 31))
  go_wp2_with fail
  refine (HBL.out _).mono ?_
  rintro e w2 ⟨rfl, hb2⟩
  have HS3 := Lib.hid (HS2.out.step hb2)
  have HV3 := Lib.hid (show w2.heap[w1.heap.size]? = some (.cells #[.slice b.1 b.2.1 b.2.2, .int .i64 ((1 : Nat) : Int)] 31) by rw [hb2.block _ (lt_of_block HV2.out)]; exact HV2.out)
  clear hb2
  obtain ⟨hv0, hv1, hvf⟩ := pair_of HV3.out
  go_wp2_with fail
  refine (HAT.out _ HS3.out.bel).mono ?_
  rintro e w3 ⟨rfl, hb3⟩
  have HS4 := Lib.hid (HS3.out.step hb3)
  clear hb3 hv0 hv1 hvf
  go_wp2_with fail
  refine (HMK.out _ _).mono ?_
  rintro e w4 ⟨gg, rfl, hr4, hb4⟩
  have HS5 := Lib.hid (HS4.out.step hb4)
  have HR5 := Lib.hid (BitsAt.row (L := fun _ => L 0) (own_set2 hr4 (G := w.heap.size + 1) (by show some gg ≠ _; have := hr4.low.1; have := HS4.out.sz; intro e; injection e; omega) (.slice (some ⟨gg, 0, none⟩) ((N + 63) / 64) ((N + 63) / 64)) (.int .i64 (N : Int))))
  clear hr4 hb4
  have HKE := Lib.hid (set2_block HS5.out.res (.slice (some ⟨gg, 0, none⟩) ((N + 63) / 64) ((N + 63) / 64)) (.int .i64 (N : Int)))
  have HBE := Lib.hid (below_set2 HS5.out.bel (Nat.le_succ _) (.slice (some ⟨gg, 0, none⟩) ((N + 63) / 64) ((N + 63) / 64)) (.int .i64 (N : Int)))
  obtain ⟨hk0, hk1, hkf⟩ := pair_of HS5.out.res
  go_wp2
  refine bodyPost_ret (v := .tuple #[.agg #[.slice (some ⟨gg, 0, none⟩) ((N + 63) / 64) ((N + 63) / 64), .int .i64 (N : Int)], .bool true]) ?_ rfl (.inl ⟨rfl, (some ⟨gg, 0, none⟩, (N + 63) / 64, (N + 63) / 64), fun _ => L 0, rfl, HR5.out, HF.out, HBE.out⟩)
  exact ret_bits2 (fn := Tryz.f69) (p := 4) (u := 5) rfl _ _ (w.heap.size + 1) (by rfl) HKE.out

theorem spread_any (k : Int) (b : Sl) (bn : Int) (s i f g x : Sl) (m N : Nat) (F : Nat → Nat) (w : World) (hn : N ≤ 1000000) (hmN : m = N ∨ m = 1) (hN : NumV (vecW k b bn s i f g x) k m F w) :
    Calls Tryz.prog 69 #[vecW k b bn s i f g x, .int .i64 (N : Int)] w (SpOut k m N F w) := by
  by_cases hk : k = 1
  · subst hk
    by_cases h : m = N
    · exact spread_same b bn s i f g x m N F w h hN
    · obtain rfl : m = 1 := hmN.resolve_left h
      exact spread_more b bn s i f g x N F w hn (fun e => h e.symm) hN
  · exact spread_no k hk b bn s i f g x m N F w

set_option maxHeartbeats 400000 in
theorem rat_any (p : V8) (m i : Nat) (w : World) (hL : ∀ W, Below w.heap.size w W → Calls Tryz.prog 38 #[p.v] W fun e w2 => e = .returned (.int .i64 (m : Nat)) ∧ Below W.heap.size W w2) :
    Calls Tryz.prog 104 #[p.v, .int .i64 (i : Int)] w fun e w' => e = .returned (.int .i64 (ixP m i : Nat)) ∧ Below w.heap.size w w' := by
  have HL := Lib.hid hL
  clear hL
  by_cases h : m = 1
  · have HX : Hid (ixP m i = 0) := if_pos h
    have e1 : ((m : Int) == 1) = true := by simp; omega
    clear h
    go_enter Tryz.func104, Tryz.ntmps104
    go_wp2_with fail
    refine (HL.out _ (bel1 w _)).mono ?_
    rintro e w1 ⟨rfl, hb1⟩
    have HB := Lib.hid (bel_both (bel1 w _) hb1)
    clear hb1
    go_wp2
    go_ret
    exact ⟨by rw [HX.out]; rfl, HB.out⟩
  · have HX : Hid (ixP m i = i) := if_neg h
    have e1 : ((m : Int) == 1) = false := by simp; omega
    clear h
    go_enter Tryz.func104, Tryz.ntmps104
    go_wp2_with fail
    refine (HL.out _ (bel1 w _)).mono ?_
    rintro e w1 ⟨rfl, hb1⟩
    have HB := Lib.hid (bel_both (bel1 w _) hb1)
    clear hb1
    go_wp2
    go_ret
    exact ⟨by rw [HX.out]; rfl, HB.out⟩

end Go.Proofs.YtiahegjdkejjpaaGreat
namespace Go.Proofs.YtiahegjdkejjpaaGreat
open Go Go.RowKit Go.Proofs Fl

theorem At9.c {w : World} {b : Nat} {h : Sl} {p : V8} (g : At9 w b 0 h p) : w.cell? ⟨b, 0, none⟩ = some (.slice h.1 h.2.1 h.2.2) ∧ w.cell? ⟨b, 1, none⟩ = some (.int .i64 p.k) ∧ w.cell? ⟨b, 2, none⟩ = some (.slice p.b.1 p.b.2.1 p.b.2.2) ∧ w.cell? ⟨b, 3, none⟩ = some (.int .i64 p.bn) ∧
    w.cell? ⟨b, 4, none⟩ = some (.slice p.s.1 p.s.2.1 p.s.2.2) ∧ w.cell? ⟨b, 5, none⟩ = some (.slice p.i.1 p.i.2.1 p.i.2.2) ∧ w.cell? ⟨b, 6, none⟩ = some (.slice p.f.1 p.f.2.1 p.f.2.2) ∧ w.cell? ⟨b, 7, none⟩ = some (.slice p.c.1 p.c.2.1 p.c.2.2) ∧ w.cell? ⟨b, 8, none⟩ = some (.slice p.x.1 p.x.2.1 p.x.2.2) := g
set_option maxHeartbeats 400000 in
theorem arrays_no (k : Int) (hk : k ≠ 6) (b : Value) (bn : Int) (s i f c x : Value) (w : World) :
    Calls Tryz.prog 89 #[vecV k b bn s i f c x] w fun e w' => e = .returned vnil ∧ Below w.heap.size w w' := by
  have hk1 : (k != 6) = true := by simpa using hk
  clear hk
  go_enter Tryz.func89, Tryz.ntmps89
  go_wp2
  go_ret
  exact ⟨rfl, bel1 _ _⟩
/-- a slice of arrays is told -/
def AslR (H : Nat → Prop) (w : World) (l : List PA) (e : Ending) (w' : World) : Prop := ∃ y : Sl, e = .returned (sv y) ∧ ASl H w' y l ∧ Below w.heap.size w w'
set_option maxHeartbeats 400000 in
theorem arrays_yes {H : Nat → Prop} {w : World} {x : Sl} {l : List PA} (g : ASl H w x l) (hl : l.length ≤ 1048576) (hH : ∀ b, H b → b < w.heap.size) :
    Calls Tryz.prog 89 #[(boxesP x).v] w (AslR H w l) := by
  have HB := Lib.hid (bel1 w (boxesP x).o)
  have HC := Lib.hid (clA_any (g.step HB.out) hl (fun b e => by have := hH b e; simp; omega))
  have HH := Lib.hid hH
  clear g hl hH
  go_enter Tryz.func89, Tryz.ntmps89
  go_wp2_with fail
  refine HC.out.mono ?_
  rintro e w1 ⟨u, rfl, ho, hb1⟩
  obtain ⟨y, rfl, hy⟩ := ho.asl (fun b e => by have := HH.out b e; simp; omega)
  have HY := Lib.hid hy
  have HB1 := Lib.hid (bel_both HB.out hb1)
  clear ho hy hb1
  obtain ⟨yA, yn, yc⟩ := y
  dsimp only [sv]
  go_wp2
  go_ret
  exact ⟨(yA, yn, yc), rfl, HY.out, HB1.out⟩
/-- the arrays in an array's boxes -/
def arrA : PA → List PA
  | .boxes _ l => l
  | _ => []
theorem av_kind {H : Nat → Prop} {w : World} {a : PA} {h : Sl} {p : V8} (g : AV H w a h p) : p.k ≠ 0 ∧ (a.fill ≠ 2 → p.k ≠ 6) ∧ (a.fill ≠ 0 → p.k ≠ 1) := by
  cases a with
  | nums s l =>
    rcases g.nums with h | ⟨_, rfl⟩
    · have hk := h.num.now.kind
      exact ⟨by omega, fun _ => by omega, fun h => absurd rfl h⟩
    · exact ⟨show (1 : Int) ≠ 0 by decide, fun _ => show (1 : Int) ≠ 6 by decide, fun h => absurd rfl h⟩
  | chars s l =>
    obtain ⟨c, rfl, _⟩ := g.chars
    exact ⟨show (5 : Int) ≠ 0 by decide, fun _ => show (5 : Int) ≠ 6 by decide, fun _ => show (5 : Int) ≠ 1 by decide⟩
  | boxes s l =>
    obtain ⟨x, rfl, _⟩ := g.asl
    exact ⟨show (6 : Int) ≠ 0 by decide, fun h => absurd rfl h, fun _ => show (6 : Int) ≠ 1 by decide⟩
theorem av_arrays {H : Nat → Prop} {w : World} {a : PA} {h : Sl} {p : V8} (g : AV H w a h p) (hl : a.len ≤ 1048576) (W : World) (hH : ∀ b, H b → b < W.heap.size) (hb : Below w.heap.size w W) :
    Calls Tryz.prog 89 #[p.v] W (AslR H W (arrA a)) := by
  have hno : a.fill ≠ 2 → arrA a = [] → Calls Tryz.prog 89 #[p.v] W (AslR H W (arrA a)) := by
    intro h2 h0
    rw [h0]
    refine (arrays_no p.k ((av_kind g).2.1 h2) _ p.bn _ _ _ _ _ W).mono ?_
    rintro e w' ⟨rfl, hb2⟩
    exact ⟨nilS, rfl, ASl.nil _ _ _ _, hb2⟩
  cases a with
  | nums s l => exact hno (show (0 : Nat) ≠ 2 by decide) rfl
  | chars s l => exact hno (show (1 : Nat) ≠ 2 by decide) rfl
  | boxes s l =>
    obtain ⟨x, rfl, hx⟩ := g.asl
    exact arrays_yes (hx.step hb) hl hH

set_option maxRecDepth 100000 in
set_option maxHeartbeats 1600000 in
theorem aIndex_walk {H : Nat → Prop} (l : List PA) (x : Sl) (w : World) (q : Addr) (f : FuncId) (fn : Func) (hfn : Tryz.prog.funcs[f]? = some fn) (hnm : (fn.name == "runtime.NumGoroutine") = false) (co : Code) (hco : fn.body = some co)
    (hx : ASl H w x l) (hm2 : l.length ≤ 1048576)
    (hf : ∀ i (hi : i < l.length) h p w1, Below w.heap.size w w1 → AV H w1 l[i] h p → Calls Tryz.prog f #[arrV h p, .pointer (some q)] w1 fun e w' => e = .returned (.bool false) ∧ Below w1.heap.size w1 w') :
    Calls Tryz.prog 117 #[sv x, .func (.func f) #[] #[.pointer (some q)]] w fun e w' => e = .returned (.int .i64 (-1)) ∧ Below w.heap.size w w' := by
  obtain ⟨A, m, cc⟩ := x
  have hm : m = l.length := hx.1
  have HK : Hid (∀ i (hi : i < l.length), ∃ b o h p, A = some ⟨b, o, none⟩ ∧ ¬ H b ∧ AV H w l[i] h p ∧ ∀ w1, Lat H w w1 → At9 w1 b (o + i * 9) h p) := hx.at_
  have hmb : m ≤ 1048576 := by omega
  have HM := Lib.hid hm
  have HF := Lib.hid hf
  have hcf : ∀ (args : Array Value) (w : World), (callFunc f args).run Tryz.prog w = .ok (.enter f args) w := by
    intro args w
    have h1 : fn.name ≠ "runtime.NumGoroutine" := by simpa using hnm
    simp [callFunc, hfn, h1, hco]
  clear hx hm2 hm hf hfn hnm hco
  dsimp only [sv]
  go_enter Tryz.func117, Tryz.ntmps117
  go_wp2
  go_loopw [5, 8] (fun _ iv wr => ∃ k : Nat, k ≤ m ∧ iv = .int .i64 (k : Int) ∧ Below w.heap.size w wr) (fun _ iv _ => m - (intOf iv).toNat)
  case atStart => exact ⟨0, Nat.zero_le _, rfl, Below.refl _ _⟩
  case round =>
    obtain ⟨k, hk, rfl, hbl⟩ := hrel
    have HBL := Lib.hid hbl
    by_cases hlt : k < m
    · have hik : k < l.length := by have := HM.out; omega
      obtain ⟨b, o, h', p', rfl, -, hav, hce⟩ := HK.out k hik
      obtain ⟨c0, c1, c2, c3, c4, c5, c6, c7, c8⟩ := hce wr (Lat.below hbl)
      dsimp only [sv] at c0 c1 c2 c3 c4 c5 c6 c7 c8
      have HFC := Lib.hid (HF.out k hik h' p' wr hbl (AV.step hav hbl))
      clear hav hce hbl
      go_wp2_with fail
      refine HFC.out.mono ?_
      rintro e w2 ⟨rfl, hb⟩
      have HB2 := Lib.hid (HBL.out.trans (hb.mono HBL.out.size))
      clear hb c0 c1 c2 c3 c4 c5 c6 c7 c8
      go_wp2
      go_roundw
      case rel => exact ⟨k + 1, by omega, by go_num, HB2.out⟩
      case measure => simp [intOf]; omega
    · clear hbl
      go_wp2
      go_ret
      exact ⟨rfl, HBL.out⟩
theorem aContains_walk {H : Nat → Prop} (l : List PA) (x : Sl) (w : World) (q : Addr) (f : FuncId) (fn : Func) (hfn : Tryz.prog.funcs[f]? = some fn) (hnm : (fn.name == "runtime.NumGoroutine") = false) (co : Code) (hco : fn.body = some co)
    (hx : ASl H w x l) (hm2 : l.length ≤ 1048576)
    (hf : ∀ i (hi : i < l.length) h p w1, Below w.heap.size w w1 → AV H w1 l[i] h p → Calls Tryz.prog f #[arrV h p, .pointer (some q)] w1 fun e w' => e = .returned (.bool false) ∧ Below w1.heap.size w1 w') :
    Calls Tryz.prog 88 #[sv x, .func (.func f) #[] #[.pointer (some q)]] w fun e w' => e = .returned (.bool false) ∧ Below w.heap.size w w' := by
  have HI := Lib.hid (aIndex_walk l x w q f fn hfn hnm co hco hx hm2 hf)
  clear hx hm2 hf hfn hnm hco
  go_enter Tryz.func88, Tryz.ntmps88
  go_wp2_with fail
  refine HI.out.mono ?_
  rintro e w' ⟨rfl, hb⟩
  have HB := Lib.hid hb
  clear hb
  go_wp2
  go_ret
  exact ⟨rfl, HB.out⟩

/-- what Packed tells, and what is told of the truths -/
theorem av_packed {H : Nat → Prop} {w : World} {a : PA} {h : Sl} {p : V8} (g : AV H w a h p) (hl : a.len ≤ 1000000) (W : World) (hb : Below w.heap.size w W) :
    ∃ (u : Sl) (n : Int) (t : Bool), Calls Tryz.prog 86 #[p.v] W (fun e w' => e = .returned (.tuple #[.agg #[.slice u.1 u.2.1 u.2.2, .int .i64 n], .bool t]) ∧ Below W.heap.size W w') ∧
      (t = true → ∀ W', Below W.heap.size W W' → Calls Tryz.prog 87 #[.agg #[.slice u.1 u.2.1 u.2.2, .int .i64 n]] W' (fun e w' => e = .returned (.bool true) ∧ Below W'.heap.size W' w')) := by
  by_cases hk : p.k = 1
  · have hf : a.fill = 0 := Classical.byContradiction fun h => (av_kind g).2.2 h hk
    cases a with
    | chars s l => cases hf
    | boxes s l => cases hf
    | nums s l =>
      rcases g.nums with h | ⟨_, rfl⟩
      · have hn := (Keeps.lat h.num (Lat.below hb)).now
        obtain ⟨k, b, bn, s, i, f, c, x⟩ := p
        obtain rfl : k = 1 := hk
        obtain ⟨rfl, L, hat, _⟩ := NumV.bits hn
        exact ⟨b, _, true, packed_yes b _ _ _ _ _ _ W, fun _ W' hb' => btidy_any (hat.below hb').in hl⟩
      · exact ⟨nilS, 0, true, packed_yes nilS _ _ _ _ _ _ W, fun _ W' _ => btidy_zb W'⟩
  · exact ⟨nilS, 0, false, packed_no p.k hk _ p.bn _ _ _ _ _ W, fun h => by cases h⟩

set_option maxRecDepth 100000 in
set_option maxHeartbeats 1600000 in
theorem good_walk : ∀ (d : Nat) (H : Nat → Prop) (a : PA) (h : Sl) (p : V8) (w : World) (z : Int), z = (d : Int) → d ≤ 100 → (∀ b, H b → b < w.heap.size) → GoodA d a → SmA 1000000 a → AV H w a h p →
    Calls Tryz.prog 52 #[arrV h p, .int .i64 z] w fun e w' => e = .returned (.bool true) ∧ Below w.heap.size w w'
  | 0, _, a, _, _, _, _, _, _, _, hg, _, _ => absurd hg.sh.1 (Nat.lt_irrefl _)
  | d + 1, H, a, h, p, w, z, hz, hd, hH, hg, hs, hav => by
    have hlen : a.len ≤ 1000000 := hs.len
    obtain ⟨w0, hw0⟩ : ∃ w0, w0 = (w.alloc (arrO h p)).alloc (.cells #[.int .i64 z] 3) := ⟨_, rfl⟩
    have hb0 : Below w.heap.size w w0 := by rw [hw0]; exact bel2 _ _ _
    have hsz : w0.heap.size = w.heap.size + 2 := by rw [hw0]; simp
    have h9 : At9 w0 w.heap.size 0 h p := by rw [hw0]; exact (at9_new w h p).below (bel1 _ _)
    have hq : w0.cell? ⟨w.heap.size + 1, 0, none⟩ = some (.int .i64 z) := by rw [hw0, World.cell?_alloc_at _ _ _ _ (by simp)]; rfl
    have HPR : Hid (Calls Tryz.prog 43 #[sv h, .int .i64 1048576] w0 fun e w' => e = .returned (.tuple #[.int .i64 (a.len : Int), .int .i64 0]) ∧ w0 = w') := by
      have q := product_any (sv h) a.shape 1048576 w0 (Keeps.lat hav.shape (Lat.below hb0)).now (by have := hg.sh.2.1; omega)
      rw [prodE_ok hg.sh.2 (by omega)] at q
      exact q
    have HLN := Lib.hid (fun W (hb : Below w0.heap.size w0 W) => av_len hav W (bel_both hb0 hb))
    have HTI := Lib.hid (fun W (hb : Below w0.heap.size w0 W) => av_tight hav hlen W (bel_both hb0 hb))
    have HKI := Lib.hid (fun W => vkind_any p.k (.slice p.b.1 p.b.2.1 p.b.2.2) p.bn (.slice p.s.1 p.s.2.1 p.s.2.2) (.slice p.i.1 p.i.2.1 p.i.2.2) (.slice p.f.1 p.f.2.1 p.f.2.2) (.slice p.c.1 p.c.2.1 p.c.2.2) (.slice p.x.1 p.x.2.1 p.x.2.2) W)
    have hk0 : (p.k == 0) = false := by have := (av_kind hav).1; simpa using this
    have HPK := Lib.hid (fun W (hb : Below w0.heap.size w0 W) => av_packed hav hlen W (bel_both hb0 hb))
    have HAR := Lib.hid (fun W (hb : Below w0.heap.size w0 W) => av_arrays hav (by omega) W (fun b e => by have := hH b e; have := hb.size; omega) (bel_both hb0 hb))
    have hz0 : (z == 0) = false := by simp; omega
    have hcl : ∀ i (hi : i < (arrA a).length) h' p' w1, Below w0.heap.size w0 w1 → AV H w1 (arrA a)[i] h' p' →
        Calls Tryz.prog 90 #[arrV h' p', .pointer (some ⟨w.heap.size + 1, 0, none⟩)] w1 fun e w' => e = .returned (.bool false) ∧ Below w1.heap.size w1 w' := by
      intro i hi h' p' w1 hb hav'
      have hga : GoodA d (arrA a)[i] ∧ SmA 1000000 (arrA a)[i] := by
        cases a with
        | nums s l => simp [arrA] at hi
        | chars s l => simp [arrA] at hi
        | boxes s l => exact ⟨show GoodA d l[i] by simpa using hg.boxes i hi, hs.boxes i hi⟩
      generalize (arrA a)[i] = a' at hga hav'
      have hqd : w1.cell? ⟨w.heap.size + 1, 0, none⟩ = some (.int .i64 z) := cell_up hb hq
      have hq2 : (w1.alloc (arrO h' p')).cell? ⟨w.heap.size + 1, 0, none⟩ = some (.int .i64 z) := cell_up (bel1 w1 (arrO h' p')) hqd
      have HC := Lib.hid (good_walk d H a' h' p' (w1.alloc (arrO h' p')) (z - 1) (by omega) (by omega) (fun b e => by have := hH b e; have := hb.size; simp; omega) hga.1 hga.2 (AV.step hav' (bel1 w1 (arrO h' p'))))
      have HB1 := Lib.hid (bel1 w1 (arrO h' p'))
      have hz1 : 0 ≤ z - 1 := by omega
      have hz2 : z ≤ 101 := by omega
      clear hqd hb hav' hga hz hg hs hav h9 hq hw0 hb0 hsz HPR HLN HTI HKI HPK HAR hz0 hk0
      go_enter Tryz.func90, Tryz.ntmps90
      go_wp2_with fail
      (with_reducible refine HC.out.mono ?_)
      rintro e w2 ⟨rfl, hb⟩
      have HB2 := Lib.hid (bel_both HB1.out hb)
      clear hb hq2
      go_wp2
      go_ret
      exact ⟨rfl, HB2.out⟩
    have HCT := Lib.hid (fun W y (hb : Below w0.heap.size w0 W) (hy : ASl H W y (arrA a)) => aContains_walk (arrA a) y W ⟨w.heap.size + 1, 0, none⟩ 90 _ Tryz.func90 (by kernel_rfl) _ rfl hy (by
      cases a with
      | nums s l => simp [arrA]
      | chars s l => simp [arrA]
      | boxes s l => exact Nat.le_trans (show l.length ≤ 1000000 from hlen) (by decide)) (fun i hi h' p' w1 hb1 hav' => hcl i hi h' p' w1 (bel_both hb hb1) hav'))
    have H90 := Lib.hid h9
    have HW0 := Lib.hid hw0
    have HB0 := Lib.hid hb0
    have HQ := Lib.hid hq
    generalize a.len = n at HPR HLN
    have hnn : ((n : Int) != (n : Int)) = false := by simp
    clear hcl hlen hw0 hb0 hsz h9 hq hz hd hH hg hs hav
    go_enter Tryz.func52, Tryz.ntmps52
    go_wp2_with fail
    rw [← HW0.out]
    refine HPR.out.mono ?_
    rintro e w1 ⟨rfl, rfl⟩
    obtain ⟨c0, c1, c2, c3, c4, c5, c6, c7, c8⟩ := H90.out.c
    go_wp2_with fail
    refine (HLN.out _ (Below.refl _ _)).mono ?_
    rintro e w1 ⟨rfl, hb⟩
    have H91 := Lib.hid (H90.out.below hb)
    have HB1 := Lib.hid hb
    clear hb c0 c1 c2 c3 c4 c5 c6 c7 c8
    obtain ⟨c0, c1, c2, c3, c4, c5, c6, c7, c8⟩ := H91.out.c
    go_wp2_with fail
    refine (HKI.out _).mono ?_
    rintro e w2 ⟨rfl, hb⟩
    have H92 := Lib.hid (H91.out.below hb)
    have HB2 := Lib.hid (bel_both HB1.out hb)
    clear hb c0 c1 c2 c3 c4 c5 c6 c7 c8
    obtain ⟨c0, c1, c2, c3, c4, c5, c6, c7, c8⟩ := H92.out.c
    go_wp2_with fail
    refine (HTI.out _ HB2.out).mono ?_
    rintro e w3 ⟨rfl, hb⟩
    have H93 := Lib.hid (H92.out.below hb)
    have HB3 := Lib.hid (bel_both HB2.out hb)
    clear hb c0 c1 c2 c3 c4 c5 c6 c7 c8
    obtain ⟨c0, c1, c2, c3, c4, c5, c6, c7, c8⟩ := H93.out.c
    have q3 := cell_up HB3.out HQ.out
    obtain ⟨u, m, t, hpk, htd⟩ := HPK.out _ HB3.out
    have HTD := Lib.hid htd
    have HPC := Lib.hid hpk
    clear htd hpk
    go_wp2_with fail
    refine HPC.out.mono ?_
    rintro e w4 ⟨rfl, hb⟩
    have HP0 := Lib.hid (hb)
    have HB4 := Lib.hid (bel_both HB3.out (bel_both hb (bel1 w4 (.cells #[.slice u.1 u.2.1 u.2.2, .int .i64 m] 31))))
    have H94 := Lib.hid (H93.out.below (bel_both hb (bel1 w4 (.cells #[.slice u.1 u.2.1 u.2.2, .int .i64 m] 31))))
    clear hb c0 c1 c2 c3 c4 c5 c6 c7 c8 q3
    have HTC : Hid (t = true → Calls Tryz.prog 87 #[.agg #[.slice u.1 u.2.1 u.2.2, .int .i64 m]] (w4.alloc (.cells #[.slice u.1 u.2.1 u.2.2, .int .i64 m] 31)) fun e w' => e = .returned (.bool true) ∧ Below (w4.alloc (.cells #[.slice u.1 u.2.1 u.2.2, .int .i64 m] 31)).heap.size (w4.alloc (.cells #[.slice u.1 u.2.1 u.2.2, .int .i64 m] 31)) w') := fun ht => HTD.out ht _ (bel_both HP0.out (bel1 _ _))
    obtain ⟨c0, c1, c2, c3, c4, c5, c6, c7, c8⟩ := H94.out.c
    have q4 := cell_up HB4.out HQ.out
    cases t with
    | false =>
      go_wp2_with fail
      refine (HAR.out _ HB4.out).mono ?_
      rintro e w6 ⟨y, rfl, hy, hb⟩
      have HB6 := Lib.hid (bel_both HB4.out hb)
      have HCC := Lib.hid (HCT.out w6 y HB6.out hy)
      clear hb hy c0 c1 c2 c3 c4 c5 c6 c7 c8 q4
      obtain ⟨yA, yn, yc⟩ := y
      go_wp2_with fail
      refine HCC.out.mono ?_
      rintro e w7 ⟨rfl, hb⟩
      have HB7 := Lib.hid (bel_both HB0.out (bel_both HB6.out hb))
      clear hb
      go_wp2
      go_ret
      exact ⟨rfl, HB7.out⟩
    | true =>
      have HT := Lib.hid (HTC.out rfl)
      go_wp2_with fail
      refine HT.out.mono ?_
      rintro e w5 ⟨rfl, hb⟩
      have HB5 := Lib.hid (bel_both HB4.out hb)
      have H95 := Lib.hid (H94.out.below hb)
      clear hb c0 c1 c2 c3 c4 c5 c6 c7 c8 q4
      obtain ⟨c0, c1, c2, c3, c4, c5, c6, c7, c8⟩ := H95.out.c
      go_wp2_with fail
      refine (HAR.out _ HB5.out).mono ?_
      rintro e w6 ⟨y, rfl, hy, hb⟩
      have HB6 := Lib.hid (bel_both HB5.out hb)
      have HCC := Lib.hid (HCT.out w6 y HB6.out hy)
      clear hb hy c0 c1 c2 c3 c4 c5 c6 c7 c8
      obtain ⟨yA, yn, yc⟩ := y
      go_wp2_with fail
      refine HCC.out.mono ?_
      rintro e w7 ⟨rfl, hb⟩
      have HB7 := Lib.hid (bel_both HB0.out (bel_both HB6.out hb))
      clear hb
      go_wp2
      go_ret
      exact ⟨rfl, HB7.out⟩
theorem vgood_any {H : Nat → Prop} {w : World} {a : PA} {h : Sl} {p : V8} (hav : AV H w a h p) (hH : ∀ b, H b → b < w.heap.size) (hg : GoodA 40 a) (hs : SmA 1000000 a) :
    Calls Tryz.prog 34 #[arrV h p] w fun e w' => e = .returned (.bool true) ∧ Below w.heap.size w w' := by
  have HB := Lib.hid (bel1 w (arrO h p))
  have HC := Lib.hid (good_walk 40 H a h p _ 40 rfl (by decide) (fun b e => by have := hH b e; simp; omega) hg hs (AV.step hav HB.out))
  clear hav hH hg hs
  go_enter Tryz.func34, Tryz.ntmps34
  go_wp2_with fail
  refine HC.out.mono ?_
  rintro e w1 ⟨rfl, hb⟩
  have HB1 := Lib.hid (bel_both HB.out hb)
  clear hb
  go_wp2
  go_ret
  exact ⟨rfl, HB1.out⟩
end Go.Proofs.YtiahegjdkejjpaaGreat
