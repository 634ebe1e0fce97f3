/- The walk of the law PervadeBack. Conditions: as the theorem says. -/
import Derived.Test.YtiahegjdkejjpaaGreatMg36
namespace Go.Proofs.YtiahegjdkejjpaaGreat
open Go Go.RowKit Go.Proofs Fl

/-- the memory behind the law's first sum: a variable holds it -/
structure LvS (w ws : World) (h1 x1 : Sl) (f1 : Int) (h2 x2 : Sl) (f2 : Int) (V : Nat) (h3 : Sl) (p3 : V8) (W : World) : Prop where
  lw : LwS w ws h1 x1 f1 h2 x2 f2 W
  arr : At9 W V 0 h3 p3
  vlt : V < ws.heap.size
theorem LvS.step {w ws W W' : World} {h1 x1 h2 x2 : Sl} {f1 f2 : Int} {V : Nat} {h3 : Sl} {p3 : V8} (g : LvS w ws h1 x1 f1 h2 x2 f2 V h3 p3 W) (hb : Below W.heap.size W W') : LvS w ws h1 x1 f1 h2 x2 f2 V h3 p3 W' := ⟨g.lw.step hb, g.arr.below hb, g.vlt⟩
theorem LvS.put {w ws W : World} {h1 x1 h2 x2 : Sl} {f1 f2 : Int} {V : Nat} {h3 : Sl} {p3 : V8} (g : LvS w ws h1 x1 f1 h2 x2 f2 V h3 p3 W) {b j : Nat} (hb : ws.heap.size ≤ b) (u : Value) : LvS w ws h1 x1 f1 h2 x2 f2 V h3 p3 (W.setCell ⟨b, j, none⟩ u) := ⟨g.lw.put hb u, g.arr.set (by show b ≠ V; have := g.vlt; omega) u, g.vlt⟩
theorem LvS.dr {w ws W : World} {h1 x1 h2 x2 : Sl} {f1 f2 : Int} {V : Nat} {h3 : Sl} {p3 : V8} (g : LvS w ws h1 x1 f1 h2 x2 f2 V h3 p3 W) : LvS w ws h1 x1 f1 h2 x2 f2 V h3 p3 W.drew := g.step (Below.refl _ W).drew
theorem LvS.al {w ws W : World} {h1 x1 h2 x2 : Sl} {f1 f2 : Int} {V : Nat} {h3 : Sl} {p3 : V8} (g : LvS w ws h1 x1 f1 h2 x2 f2 V h3 p3 W) (o : Obj) : LvS w ws h1 x1 f1 h2 x2 f2 V h3 p3 (W.alloc o) := g.step (bel1 W o)
theorem LvS.self {w ws W : World} {h1 x1 h2 x2 : Sl} {f1 f2 : Int} {V : Nat} {h3 : Sl} {p3 : V8} (g : LvS w ws h1 x1 f1 h2 x2 f2 V h3 p3 W) : LvS w ws h1 x1 f1 h2 x2 f2 V h3 p3 W := g
theorem lvs_s {w ws W : World} {h1 x1 h2 x2 : Sl} {f1 f2 : Int} {V : Nat} {h3 : Sl} {p3 : V8} (g : LvS w ws h1 x1 f1 h2 x2 f2 V h3 p3 W) : ((W.cell? ⟨V, 0, none⟩ = some (.slice h3.1 h3.2.1 h3.2.2) ∧ W.cell? ⟨V, 1, none⟩ = some (.int .i64 p3.k) ∧ W.cell? ⟨V, 2, none⟩ = some (.slice p3.b.1 p3.b.2.1 p3.b.2.2) ∧ W.cell? ⟨V, 3, none⟩ = some (.int .i64 p3.bn) ∧ W.cell? ⟨V, 4, none⟩ = some (.slice p3.s.1 p3.s.2.1 p3.s.2.2) ∧ W.cell? ⟨V, 5, none⟩ = some (.slice p3.i.1 p3.i.2.1 p3.i.2.2) ∧ W.cell? ⟨V, 6, none⟩ = some (.slice p3.f.1 p3.f.2.1 p3.f.2.2) ∧ W.cell? ⟨V, 7, none⟩ = some (.slice p3.c.1 p3.c.2.1 p3.c.2.2) ∧ W.cell? ⟨V, 8, none⟩ = some (.slice p3.x.1 p3.x.2.1 p3.x.2.2)) ∧ (((W.cell? ⟨w.heap.size, 0, none⟩ = some (.slice h1.1 h1.2.1 h1.2.2) ∧ W.cell? ⟨w.heap.size, 1, none⟩ = some (.slice x1.1 x1.2.1 x1.2.2) ∧ W.cell? ⟨w.heap.size, 2, none⟩ = some (.int .i64 f1)) ∧ (W.cell? ⟨w.heap.size + 1, 0, none⟩ = some (.slice h2.1 h2.2.1 h2.2.2) ∧ W.cell? ⟨w.heap.size + 1, 1, none⟩ = some (.slice x2.1 x2.2.1 x2.2.2) ∧ W.cell? ⟨w.heap.size + 1, 2, none⟩ = some (.int .i64 f2))))) ∧ LvS w ws h1 x1 f1 h2 x2 f2 V h3 p3 W := ⟨⟨g.arr.c, (lws_s g.lw).1⟩, g⟩
theorem lws_t {w wr W : World} {A3 vA uA : Option Addr} {i k3 vn vc un uc : Nat} (g : LwS w wr (A3, i, k3) (vA, vn, vc) 0 (A3, i, k3) (uA, un, uc) 0 W) : ((W.cell? ⟨w.heap.size, 0, none⟩ = some (.slice A3 i k3) ∧ W.cell? ⟨w.heap.size, 1, none⟩ = some (.slice vA vn vc) ∧ W.cell? ⟨w.heap.size, 2, none⟩ = some (.int .i64 0)) ∧ (W.cell? ⟨w.heap.size + 1, 0, none⟩ = some (.slice A3 i k3) ∧ W.cell? ⟨w.heap.size + 1, 1, none⟩ = some (.slice uA un uc) ∧ W.cell? ⟨w.heap.size + 1, 2, none⟩ = some (.int .i64 0))) ∧ LwS w wr (A3, i, k3) (vA, vn, vc) 0 (A3, i, k3) (uA, un, uc) 0 W := lws_s g
theorem lvs_t {w ws W : World} {A3 vA uA : Option Addr} {i k3 vn vc un uc : Nat} {V : Nat} {h3 : Sl} {p3 : V8} (g : LvS w ws (A3, i, k3) (vA, vn, vc) 0 (A3, i, k3) (uA, un, uc) 0 V h3 p3 W) : ((W.cell? ⟨V, 0, none⟩ = some (.slice h3.1 h3.2.1 h3.2.2) ∧ W.cell? ⟨V, 1, none⟩ = some (.int .i64 p3.k) ∧ W.cell? ⟨V, 2, none⟩ = some (.slice p3.b.1 p3.b.2.1 p3.b.2.2) ∧ W.cell? ⟨V, 3, none⟩ = some (.int .i64 p3.bn) ∧ W.cell? ⟨V, 4, none⟩ = some (.slice p3.s.1 p3.s.2.1 p3.s.2.2) ∧ W.cell? ⟨V, 5, none⟩ = some (.slice p3.i.1 p3.i.2.1 p3.i.2.2) ∧ W.cell? ⟨V, 6, none⟩ = some (.slice p3.f.1 p3.f.2.1 p3.f.2.2) ∧ W.cell? ⟨V, 7, none⟩ = some (.slice p3.c.1 p3.c.2.1 p3.c.2.2) ∧ W.cell? ⟨V, 8, none⟩ = some (.slice p3.x.1 p3.x.2.1 p3.x.2.2)) ∧ (((W.cell? ⟨w.heap.size, 0, none⟩ = some (.slice A3 i k3) ∧ W.cell? ⟨w.heap.size, 1, none⟩ = some (.slice vA vn vc) ∧ W.cell? ⟨w.heap.size, 2, none⟩ = some (.int .i64 0)) ∧ (W.cell? ⟨w.heap.size + 1, 0, none⟩ = some (.slice A3 i k3) ∧ W.cell? ⟨w.heap.size + 1, 1, none⟩ = some (.slice uA un uc) ∧ W.cell? ⟨w.heap.size + 1, 2, none⟩ = some (.int .i64 0))))) ∧ LvS w ws (A3, i, k3) (vA, vn, vc) 0 (A3, i, k3) (uA, un, uc) 0 V h3 p3 W := lvs_s g
/-- how many elements the first axes have, each of at most sixty -/
theorem prod_bound : ∀ (s : List Nat), (∀ d ∈ s, d ≤ 60) → prodN s ≤ 60 ^ s.length ∧ prod1 s ≤ 60 ^ s.length
  | [], _ => ⟨Nat.le_refl _, Nat.le_refl _⟩
  | d :: s, h => by
    obtain ⟨h1, h2⟩ := prod_bound s fun x hx => h x (by simp [hx])
    have hd := h d (by simp)
    rw [List.length_cons, Nat.pow_succ, Nat.mul_comm]
    exact ⟨Nat.mul_le_mul hd h1, Nat.mul_le_mul (by omega) h2⟩
theorem prodN_snoc (s : List Nat) (d : Nat) : prodN (s ++ [d]) = prodN s * d := by
  rw [prodN_append]
  simp [prodN]
abbrev n32 : Type := { z : Int // -2147483648 ≤ z ∧ z ≤ 2147483647 }
/-- the first numbers of a list, as floats -/
def flL (n : Nat) (l : List n32) : List Nat := (l.take n).map fun z => fi z.1
theorem flL_len {n : Nat} {l : List n32} (h : n ≤ l.length) : (flL n l).length = n := by unfold flL; simp; omega
theorem flL_succ {n : Nat} {l : List n32} (h : n < l.length) : flL (n + 1) l = flL n l ++ [fi l[n].1] := by
  unfold flL
  rw [List.take_succ_eq_append_getElem h, List.map_append]
  rfl
theorem flL_at {n : Nat} {l : List n32} (h : n ≤ l.length) (j : Nat) (hj : j < n) : (flL n l).getD j 0 = fi (l[j]'(by omega)).1 := by
  unfold flL
  have : j < (l.take n).length := by simp; omega
  simp [List.getD, hj, (show j < l.length by omega)]
theorem flL_tf {n : Nat} {l : List n32} : ∀ x ∈ flL n l, TF x := by
  intro x hx
  unfold flL at hx
  obtain ⟨z, _, rfl⟩ := List.mem_map.1 hx
  have := z.2
  exact tf_mid (by omega)
/-- the sums -/
def suL (n : Nat) (l m : List n32) : List Nat := (List.range n).map fun j => fi ((l.map (·.1)).getD j 0 + (m.map (·.1)).getD j 0)
theorem back_one {n : Nat} {l m : List n32} (s : List Nat) (hl : n ≤ l.length) (hm : n ≤ m.length) (N : Nat) : twoE (N + 1) 1 (.nums s (flL n l)) (.nums s (flL n m)) = (0, .nums s (suL n l m)) := by
  refine two_same (by decide) (by rw [flL_len hl, flL_len hm]) (by rw [flL_len hl]; simp [suL]) (fun j hj => ?_) N
  rw [flL_len hl] at hj
  have h1 : j < l.length := by omega
  have h2 : j < m.length := by omega
  rw [flL_at hl j hj, flL_at hm j hj, add_32 (l[j].2) (m[j].2)]
  simp [suL, List.getD, hj, h1, h2]
theorem back_two {n : Nat} {l m : List n32} (s : List Nat) (hl : n ≤ l.length) (hm : n ≤ m.length) (N : Nat) : twoE (N + 1) 2 (.nums s (suL n l m)) (.nums s (flL n m)) = (0, .nums s (flL n l)) := by
  refine two_same (by decide) (by rw [flL_len hm]; simp [suL]) (by rw [flL_len hl]; simp [suL]) (fun j hj => ?_) N
  have hj2 : j < n := by simpa [suL] using hj
  have h1 : j < l.length := by omega
  have h2 : j < m.length := by omega
  rw [flL_at hl j hj2, flL_at hm j hj2]
  have e : (suL n l m).getD j 0 = fi (l[j].1 + m[j].1) := by simp [suL, List.getD, hj2, h1, h2]
  rw [e, sub_32 (l[j].2) (m[j].2)]
theorem suL_tf {n : Nat} {l m : List n32} (hl : n ≤ l.length) (hm : n ≤ m.length) : ∀ x ∈ suL n l m, TF x := by
  intro x hx
  unfold suL at hx
  obtain ⟨j, hj, rfl⟩ := List.mem_map.1 hx
  have hj2 := List.mem_range.1 hj
  have h1 : j < l.length := by omega
  have h2 : j < m.length := by omega
  have a := l[j].2
  have b := m[j].2
  have e1 : (l.map (·.1)).getD j 0 = l[j].1 := by simp [List.getD, h1]
  have e2 : (m.map (·.1)).getD j 0 = m[j].1 := by simp [List.getD, h2]
  rw [e1, e2]
  exact tf_mid (by omega)
/-- behind the first append of a round -/
def BkMid (w : World) (s : Sl) (lp lq : List Nat) (vq : Value) (wx : World) : Prop := ∃ vA vn vc, BkI w s lp lq (.slice vA vn vc) vq wx

set_option maxRecDepth 100000 in
set_option maxHeartbeats 4000000 in
theorem back_any (l m : List n32) (s : List Int) (hl hm hs : Sl) (w : World) (rl : Reads1 w (sv hl) (l.map fun z => .int .i32 z.1)) (rm : Reads1 w (sv hm) (m.map fun z => .int .i32 z.1)) (rs : RdH (fun _ => False) w (sv hs) (s.map (Value.int .i64))) (bl : l.length ≤ 1048576) (bm : m.length ≤ 1048576) (bs : s.length ≤ 1048576) :
    Calls Tryz.prog 4 #[sv hl, sv hm, sv hs] w fun e w' => e = .returned (.bool true) ∧ Below w.heap.size w w' := by
  have HRS := Lib.hid rs
  obtain ⟨A1, n1, k1, e1, hn1, hc1⟩ := map_open rl
  obtain ⟨A2, n2, k2, e2, hn2, hc2⟩ := map_open rm
  obtain ⟨A3, n3, k3, e3, hn3, hc3⟩ := map_open rs.now
  rw [e1, e2, e3]
  have HES := Lib.hid e3
  have HC1 := Lib.hid hc1
  have HC2 := Lib.hid hc2
  have HC3 := Lib.hid hc3
  have HN1 := Lib.hid hn1
  have HN2 := Lib.hid hn2
  have HN3 := Lib.hid hn3
  have b1 : n1 ≤ 1048576 := by omega
  have b2 : n2 ≤ 1048576 := by omega
  have b3 : n3 ≤ 1048576 := by omega
  clear rl rm rs e1 e2 e3 hc1 hc2 hc3 hn1 hn2 hn3 bl bm bs
  go_enter Tryz.func4, Tryz.ntmps4
  go_wp2
  go_loopw [7, 8] (fun nv iv wr => ∃ (i P : Nat), i ≤ n3 ∧ i ≤ 4 ∧ P ≤ 60 ^ 4 ∧ nv = .int .i64 (P : Int) ∧ iv = .int .i64 (i : Int) ∧ (P = prodN ((s.take i).map Int.toNat) ∧ (∀ d ∈ s.take i, 0 ≤ d ∧ d ≤ 60)) ∧ wr = w) (fun _ iv _ => 4 - (intOf iv).toNat)
  case atStart => exact ⟨0, 1, Nat.zero_le _, Nat.zero_le _, by decide, rfl, rfl, ⟨rfl, by simp⟩, rfl⟩
  case round =>
    obtain ⟨i, P, hi, hi4, hP4, rfl, rfl, hPe, hwr⟩ := hrel
    have hwd := hwr.symm
    subst hwd
    have HPE := Lib.hid hPe
    clear hPe hwr
    by_cases hlt : i < n3
    · have hlt2 : (i : Int) < (n3 : Int) := by omega
      by_cases h4 : i < 4
      · have h42 : (i : Int) < 4 := by omega
        have his : i < s.length := by have := HN3.out; omega
        obtain ⟨b, o, rfl, hce⟩ := HC3.out i his
        have HTK : Hid (s.take (i + 1) = s.take i ++ [s[i]]) := List.take_succ_eq_append_getElem his
        generalize s[i] = z at hce HTK
        by_cases hz0 : z < 0
        · go_wp2_with fail
          refine (awake24_any _).mono ?_
          rintro e w1 ⟨rfl, hb⟩
          have HB := Lib.hid hb
          clear hb
          go_wp2
          go_ret
          exact ⟨rfl, HB.out⟩
        · by_cases hz6 : 60 < z
          · go_wp2_with fail
            refine (awake24_any _).mono ?_
            rintro e w1 ⟨rfl, hb⟩
            have HB := Lib.hid hb
            clear hb
            go_wp2
            go_ret
            exact ⟨rfl, HB.out⟩
          · obtain ⟨d, hd⟩ : ∃ d : Nat, z = (d : Int) := ⟨z.toNat, by omega⟩
            subst hd
            have hd6 : d ≤ 60 := by omega
            have hall : ∀ x ∈ s.take (i + 1), 0 ≤ x ∧ x ≤ 60 := by
              rw [HTK.out]
              intro x hx
              rcases List.mem_append.1 hx with hx | hx
              · exact HPE.out.2 x hx
              · obtain rfl : x = (d : Int) := by simpa using hx
                omega
            have hmul : P * d = prodN ((s.take (i + 1)).map Int.toNat) := by
              rw [HTK.out, List.map_append]
              show P * d = prodN (_ ++ [(d : Int).toNat])
              rw [prodN_snoc, ← HPE.out.1]
              simp
            have hbd : P * d ≤ 60 ^ 4 := by
              rw [hmul]
              refine Nat.le_trans (prod_bound _ fun x hx => ?_).1 (Nat.pow_le_pow_right (by decide) (by simp; omega))
              obtain ⟨y, hy, rfl⟩ := List.mem_map.1 hx
              have := hall y hy
              omega
            have hpi : (P : Int) * (d : Int) = ((P * d : Nat) : Int) := by simp
            have hww : IntKind.i64.wrap ((P * d : Nat) : Int) = ((P * d : Nat) : Int) := IntWalk.i64_in _ (by omega)
            have HNX : Hid (P * d = prodN ((s.take (i + 1)).map Int.toNat) ∧ (∀ x ∈ s.take (i + 1), 0 ≤ x ∧ x ≤ 60)) := ⟨hmul, hall⟩
            clear hmul hall HTK
            generalize P * d = Q at hbd hpi hww HNX
            go_wp2
            go_roundw
            case rel => exact ⟨i + 1, Q, by omega, by omega, hbd, rfl, by go_num, HNX.out, by trivial⟩
            case measure => simp [intOf]; omega
      · have h42 : ¬ (i : Int) < 4 := by omega
        obtain rfl : i = 4 := by omega
        have h3 : (3 : Int) < (n3 : Int) := by omega
        go_wp2_with fail
        refine (awake24_any _).mono ?_
        rintro e w1 ⟨rfl, hb⟩
        have HB := Lib.hid hb
        clear hb
        go_wp2
        go_ret
        exact ⟨rfl, HB.out⟩
    · have hge : ¬ (i : Int) < (n3 : Int) := by omega
      obtain rfl : i = n3 := by omega
      have htk : s.take i = s := by rw [HN3.out]; exact List.take_length
      have hpe := HPE.out
      rw [htk] at hpe
      have HPP := Lib.hid hpe
      clear hpe htk HPE
      have hAW : ∀ W, Calls Tryz.prog 8 #[] W fun e w' => e = .returned (.bool true) ∧ Below W.heap.size W w' := fun W => awake24_any W
      have HAW := Lib.hid hAW
      clear hAW
      by_cases h3 : 3 < i
      · have h32 : (3 : Int) < (i : Int) := by omega
        go_wp2_with fail
        refine (HAW.out _).mono ?_
        rintro e w1 ⟨rfl, hb⟩
        have HB := Lib.hid hb
        clear hb
        go_wp2
        go_ret
        exact ⟨rfl, HB.out⟩
      · have h32 : ¬ (3 : Int) < (i : Int) := by omega
        by_cases hP : 200 < P
        · have hP2 : (200 : Int) < (P : Int) := by omega
          go_wp2_with fail
          refine (HAW.out _).mono ?_
          rintro e w1 ⟨rfl, hb⟩
          have HB := Lib.hid hb
          clear hb
          go_wp2
          go_ret
          exact ⟨rfl, HB.out⟩
        · have hP2 : ¬ (200 : Int) < (P : Int) := by omega
          by_cases hl1 : n1 < P
          · have hl12 : (n1 : Int) < (P : Int) := by omega
            go_wp2_with fail
            refine (HAW.out _).mono ?_
            rintro e w1 ⟨rfl, hb⟩
            have HB := Lib.hid hb
            clear hb
            go_wp2
            go_ret
            exact ⟨rfl, HB.out⟩
          · have hl12 : ¬ (n1 : Int) < (P : Int) := by omega
            by_cases hl2 : n2 < P
            · have hl22 : (n2 : Int) < (P : Int) := by omega
              go_wp2_with fail
              refine (HAW.out _).mono ?_
              rintro e w1 ⟨rfl, hb⟩
              have HB := Lib.hid hb
              clear hb
              go_wp2
              go_ret
              exact ⟨rfl, HB.out⟩
            · have hl22 : ¬ (n2 : Int) < (P : Int) := by omega
              go_wp2_with fail
              obtain ⟨U, hU⟩ : ∃ U, U = (w.alloc (plO (A3, i, k3) nilS 0)).alloc (plO (A3, i, k3) nilS 0) := ⟨_, rfl⟩
              have HU := Lib.hid hU
              have HI0 : Hid (BkI w (A3, i, k3) (flL 0 l) (flL 0 m) (.slice none 0 0) (.slice none 0 0) U) := by
                have h2 := heap_alloc_new (w.alloc (plO (A3, i, k3) nilS 0)) (plO (A3, i, k3) nilS 0)
                rw [show (w.alloc (plO (A3, i, k3) nilS 0)).heap.size = w.heap.size + 1 by simp, ← hU] at h2
                have h1 := blk_alloc (heap_alloc_new w (plO (A3, i, k3) nilS 0)) (plO (A3, i, k3) nilS 0)
                rw [← hU] at h1
                exact ⟨NRow.nil _ _, NRow.nil _ _, h1, h2, fun b e => (by cases e), by rw [hU]; exact bel2 w _ _⟩
              clear hU
              rw [← HU.out]
              go_loopw [11] (fun iv wr => ∃ (c : Nat) (vp vq : Value), c ≤ P ∧ iv = .int .i64 (c : Int) ∧ BkI w (A3, i, k3) (flL c l) (flL c m) vp vq wr) (fun iv _ => P - (intOf iv).toNat)
              case atStart => exact ⟨0, _, _, Nat.zero_le _, rfl, HI0.out⟩
              case round =>
                obtain ⟨c, vp, vq, hc, rfl, hti⟩ := hrel
                have HTI := Lib.hid hti
                clear hti HI0 HU
                obtain ⟨vA, vn, vc, hvn⟩ : ∃ A n c, vp = .slice A n c := by obtain ⟨a, c, e⟩ := HTI.out.rowp.len; exact ⟨a, _, c, e⟩
                subst hvn
                obtain ⟨uA, un, uc, hun⟩ : ∃ A n c, vq = .slice A n c := by obtain ⟨a, c, e⟩ := HTI.out.rowq.len; exact ⟨a, _, c, e⟩
                subst hun
                by_cases hlc : c < P
                · have hlc2 : (c : Int) < (P : Int) := by omega
                  have h1l : c < l.length := by have := HN1.out; omega
                  have h2l : c < m.length := by have := HN2.out; omega
                  have hcn1 : (c : Int) < (n1 : Int) := by omega
                  have hcn2 : (c : Int) < (n2 : Int) := by omega
                  obtain ⟨b, o, rfl, hce⟩ := HC1.out c h1l
                  obtain ⟨b', o', rfl, hce'⟩ := HC2.out c h2l
                  have HS1 := Lib.hid (flL_succ h1l)
                  have HS2 := Lib.hid (flL_succ h2l)
                  generalize (l[c]).1 = z1 at hce HS1
                  generalize (m[c]).1 = z2 at hce' HS2
                  have HX1 := Lib.hid hce
                  have HX2 := Lib.hid hce'
                  clear hce hce'
                  go_upto_region 14 with fail
                  go_cut [11] from 69 to 95 (fun iv wx => iv = .int .i64 (c : Int) ∧ BkMid w (A3, i, k3) (flL c l ++ [fi z1]) (flL c m) (.slice uA un uc) wx)
                  case first =>
                    have hclp := cell_up HTI.out.bel HX1.out
                    obtain ⟨⟨e0, e1, e2⟩, ez⟩ := block3 HTI.out.outp
                    have g1 := fun o => cell_box1 e1 o
                    have gc := fun o => cell_box1 hclp o
                    have HBX := Lib.hid ((bel1 wr (itO 0 (floatOfInt .f64 z1) 0 nilS)).drew)
                    have HTW := Lib.hid (HTI.out.step HBX.out)
                    have HBK : Hid ((wr.alloc (itO 0 (floatOfInt .f64 z1) 0 nilS)).drew.heap[wr.heap.size]? = some (itO 0 (fi z1) 0 nilS)) := heap_alloc_new wr (itO 0 (floatOfInt .f64 z1) 0 nilS)
                    have HSZ : Hid (w.heap.size + 2 ≤ (wr.alloc (itO 0 (floatOfInt .f64 z1) 0 nilS)).drew.heap.size) := HTW.out.sz
                    have HLB : Hid ((flL c l).length ≤ 1048576) := by unfold Hid flL; simp; omega
                    skip
                    go_region_law (go_loud (refine step_pushN rfl (.tmp 75) (.tmp 82) rfl (w.heap.size + 2) (.slice vA vn vc) (flL c l) (by rfl) HTW.out.rowp (fi z1) wr.heap.size HBK.out (by rfl) HLB.out HSZ.out ?_); intro vA' vn' vc' w' hown' hbw hlat hat; have HP := Lib.hid (HTW.out.push_p hown' (hbw _ (Below.refl _ _)) hlat hat); (obtain ⟨⟨q0, q1, q2⟩, qz⟩ := block3 (HTW.out.outp_lat hlat)))
                    all_goals
                      go_wp2
                      go_meet
                      exact ⟨rfl, _, _, _, HP.out⟩
                  obtain ⟨rfl, vA', vn', vc', hti⟩ := hcut
                  obtain ⟨wb, hwb⟩ : ∃ wb, wb = wc := ⟨_, rfl⟩
                  subst hwb
                  have HT2 := Lib.hid hti
                  clear hti HTI
                  have hclq := cell_up HT2.out.bel HX2.out
                  obtain ⟨⟨e0, e1, e2⟩, ez⟩ := block3 HT2.out.outq
                  have g1 := fun o => cell_box1 e1 o
                  have gc := fun o => cell_box1 hclq o
                  have HBX := Lib.hid ((bel1 wb (itO 0 (floatOfInt .f64 z2) 0 nilS)).drew)
                  have HTW := Lib.hid (HT2.out.step HBX.out)
                  have HBK : Hid ((wb.alloc (itO 0 (floatOfInt .f64 z2) 0 nilS)).drew.heap[wb.heap.size]? = some (itO 0 (fi z2) 0 nilS)) := heap_alloc_new wb (itO 0 (floatOfInt .f64 z2) 0 nilS)
                  have HSZ : Hid (w.heap.size + 2 ≤ (wb.alloc (itO 0 (floatOfInt .f64 z2) 0 nilS)).drew.heap.size) := HTW.out.sz
                  have HLB : Hid ((flL c m).length ≤ 1048576) := by unfold Hid flL; simp; omega
                  go_wp2
                  go_region_law (go_loud (refine step_pushN rfl (.tmp 86) (.tmp 93) rfl (w.heap.size + 2) (.slice uA un uc) (flL c m) (by rfl) HTW.out.rowq (fi z2) wb.heap.size HBK.out (by rfl) HLB.out HSZ.out ?_); intro vA' vn' vc' w' hown' hbw hlat hat; have HP := Lib.hid (HTW.out.push_q hown' (hbw _ (Below.refl _ _)) hlat hat); (obtain ⟨⟨q0, q1, q2⟩, qz⟩ := block3 (HTW.out.outq_lat hlat)))
                  all_goals
                    go_wp2
                    go_roundw
                    case rel => exact ⟨c + 1, _, _, by omega, by go_num, by rw [HS1.out, HS2.out]; exact HP.out⟩
                    case measure => simp [intOf]; omega
                · obtain rfl : c = P := by omega
                  have hge : ¬ (c : Int) < (c : Int) := by omega
                  obtain ⟨P, hPc⟩ : ∃ P, P = c := ⟨_, rfl⟩
                  subst hPc
                  obtain ⟨sn, hsn⟩ : ∃ sn, sn = s.map Int.toNat := ⟨_, rfl⟩
                  have hsI : sn.map Int.ofNat = s := by
                    rw [hsn]
                    exact (natL_of (fun ⟨d, hd, h0⟩ => by have := HPP.out.2 d hd; omega)).symm
                  have hsl : sn.length ≤ 3 := by rw [hsn, List.length_map]; have := HN3.out; omega
                  have hall : ∀ d ∈ sn, d ≤ 60 := fun d hd => by
                    rw [hsn] at hd
                    obtain ⟨y, hy, rfl⟩ := List.mem_map.1 hd
                    have := HPP.out.2 y hy
                    omega
                  have HSH : Hid (OkSh sn P) := ⟨by omega, Nat.le_trans (Nat.le_trans (prod_bound sn hall).2 (Nat.pow_le_pow_right (by decide) hsl)) (by decide), by rw [hsn]; exact HPP.out.1.symm⟩
                  have hP1 : P ≤ l.length := by have := HN1.out; omega
                  have hP2' : P ≤ m.length := by have := HN2.out; omega
                  have HL1 := Lib.hid (flL_len hP1)
                  have HL2 := Lib.hid (flL_len hP2')
                  have hrs : RdH noH wr (sv (A3, i, k3)) (s.map (Value.int .i64)) := by
                    have h9 := HRS.out
                    rw [HES.out] at h9
                    exact Keeps.lat h9 (Lat.below HTI.out.bel)
                  obtain ⟨xp, hxp, hpp⟩ := HTI.out.rowp.iown.pv (fun _ e => e.elim) hrs 0
                  obtain ⟨xq, hxq, hqq⟩ := HTI.out.rowq.iown.pv (fun _ e => e.elim) hrs 0
                  obtain ⟨xA, xn, xc⟩ := xp
                  obtain ⟨yA, yn, yc⟩ := xq
                  have h9 : Value.slice vA vn vc = .slice xA xn xc := hxp
                  injection h9 with h10 h11 h12
                  subst h10; subst h11; subst h12
                  have h9 : Value.slice uA un uc = .slice yA yn yc := hxq
                  injection h9 with h10 h11 h12
                  subst h10; subst h11; subst h12
                  have HPV1 : Hid (PV noH wr (rawP (.nums sn (flL P l))) (A3, i, k3) (vA, vn, vc) 0) := by unfold Hid; rw [rawP, hsI]; exact hpp
                  have HPV2 : Hid (PV noH wr (rawP (.nums sn (flL P m))) (A3, i, k3) (uA, un, uc) 0) := by unfold Hid; rw [rawP, hsI]; exact hqq
                  have HSV : Hid (P2 w wr (A3, i, k3) (vA, vn, vc) 0 (A3, i, k3) (uA, un, uc) 0) := by
                    obtain ⟨e1, _⟩ := block3 HTI.out.outp
                    obtain ⟨e2, _⟩ := block3 HTI.out.outq
                    exact ⟨e1, e2, HTI.out.bel⟩
                  have HE1 := Lib.hid (back_one (n := P) sn hP1 hP2' 0)
                  have HE2 := Lib.hid (back_two (n := P) sn hP1 hP2' 0)
                  have HTS := Lib.hid (suL_tf (n := P) hP1 hP2')
                  clear hxp hxq hpp hqq hrs HTI hsI hall hsn hsl
                  have HG1 : Hid (GoodA 40 (.nums sn (flL P l))) := good_nums (by rw [HL1.out]; exact HSH.out) flL_tf
                  have HG2 : Hid (GoodA 40 (.nums sn (flL P m))) := good_nums (by rw [HL2.out]; exact HSH.out) flL_tf
                  have HGS : Hid (GoodA 40 (.nums sn (suL P l m))) := good_nums (by simp only [suL, List.length_map, List.length_range]; exact HSH.out) HTS.out
                  have HM1 : Hid (SmA 1000000 (.nums sn (flL P l))) := by unfold Hid; rw [SmA, HL1.out]; omega
                  have HM2 : Hid (SmA 1000000 (.nums sn (flL P m))) := by unfold Hid; rw [SmA, HL2.out]; omega
                  have HMS : Hid (SmA 1000000 (.nums sn (suL P l m))) := by unfold Hid; rw [SmA]; simp only [suL, List.length_map, List.length_range]; omega
                  have HST : Hid (LwS w wr (A3, i, k3) (vA, vn, vc) 0 (A3, i, k3) (uA, un, uc) 0 wr) := ⟨HSV.out, Below.refl _ _, HSV.out.sz⟩
                  have HO1 : Hid (∀ W, LwS w wr (A3, i, k3) (vA, vn, vc) 0 (A3, i, k3) (uA, un, uc) 0 W → Calls Tryz.prog 10 #[plV (A3, i, k3) (vA, vn, vc) 0] W (AaR noH W (.nums sn (flL P l)))) := fun W hs => lawOf_nums (by rw [HL1.out]; exact HSH.out) flL_tf (by rw [HL1.out]; omega) _ _ _ W (HPV1.out.step hs.bel)
                  have HO2 : Hid (∀ W, LwS w wr (A3, i, k3) (vA, vn, vc) 0 (A3, i, k3) (uA, un, uc) 0 W → Calls Tryz.prog 10 #[plV (A3, i, k3) (uA, un, uc) 0] W (AaR noH W (.nums sn (flL P m)))) := fun W hs => lawOf_nums (by rw [HL2.out]; exact HSH.out) flL_tf (by rw [HL2.out]; omega) _ _ _ W (HPV2.out.step hs.bel)
                  obtain ⟨rr, hrr⟩ : ∃ rr : Int × PA, rr = (0, .nums sn (suL P l m)) := ⟨_, rfl⟩
                  obtain ⟨r2, hr2⟩ : ∃ r2 : Int × PA, r2 = (0, .nums sn (flL P l)) := ⟨_, rfl⟩
                  have HTW : Hid (∀ (W : World) (u1 u2 : Sl) (v1 v2 : V8), LwS w wr (A3, i, k3) (vA, vn, vc) 0 (A3, i, k3) (uA, un, uc) 0 W → AvAt noH (.nums sn (flL P l)) u1 v1 W → AvAt noH (.nums sn (flL P m)) u2 v2 W → Calls Tryz.prog 9 #[.int .i64 1, arrV u1 v1, arrV u2 v2] W (TwU (Fresh wr W) W rr)) := fun W u1 u2 v1 v2 hs g1 g2 => by
                    have h9 := ptwo_any 1 (Fresh wr W) noH noH 1 _ _ 40 40 u1 u2 v1 v2 W (fun b e => e.2) (noH_lt _) (noH_lt _) HG1.out HG2.out HM1.out HM2.out (by rw [depA_nums, depA_nums]; decide) g1 g2
                    rw [HE1.out, ← hrr] at h9
                    exact h9.mono fun _ _ t => TwR.u t
                  have HR1 : Hid (rr.1 = 0 ∧ rr.2 = .nums sn (suL P l m)) := by rw [hrr]; exact ⟨rfl, rfl⟩
                  have HR2 : Hid (r2.1 = 0 ∧ r2.2 = .nums sn (flL P l)) := by rw [hr2]; exact ⟨rfl, rfl⟩
                  have HTV : Hid (∀ (V : Nat) (h3 : Sl) (p3 : V8) (ws W : World) (u2 : Sl) (v2 : V8), V < W.heap.size → AvAt (fun b => b = V) (.nums sn (suL P l m)) h3 p3 W → AvAt noH (.nums sn (flL P m)) u2 v2 W → Calls Tryz.prog 9 #[.int .i64 2, arrV h3 p3, arrV u2 v2] W (TwU (Fresh ws W) W r2)) := fun V h3 p3 ws W u2 v2 hV g1 g2 => by
                    have h9 := ptwo_any 1 (Fresh ws W) (fun b => b = V) noH 2 _ _ 40 40 h3 u2 p3 v2 W (fun b e => e.2) (fun b e => by omega) (noH_lt _) HGS.out HG2.out HMS.out HM2.out (by rw [depA_nums, depA_nums]; decide) g1 g2
                    rw [HE2.out, ← hr2] at h9
                    exact h9.mono fun _ _ t => TwR.u t
                  unfold AaR at HO1 HO2
                  unfold TwU at HTW HTV
                  clear hrr hr2 HE1 HE2 HGS HMS HG2 HM2 HTS HSH HL1 HL2 hP1 hP2'
                  go_upto_region 16 with fail
                  go_cut [12, 13] from 96 (fun v e wx => LwMid w wr (A3, i, k3) (vA, vn, vc) 0 (A3, i, k3) (uA, un, uc) 0 rr v e wx)
                  case first =>
                    have hs0 := HST.out.dr
                    have hs00 := HST.out
                    go_region_held3 (fun W => ((W.cell? ⟨w.heap.size, 0, none⟩ = some (.slice A3 i k3) ∧ W.cell? ⟨w.heap.size, 1, none⟩ = some (.slice vA vn vc) ∧ W.cell? ⟨w.heap.size, 2, none⟩ = some (.int .i64 0)) ∧ (W.cell? ⟨w.heap.size + 1, 0, none⟩ = some (.slice A3 i k3) ∧ W.cell? ⟨w.heap.size + 1, 1, none⟩ = some (.slice uA un uc) ∧ W.cell? ⟨w.heap.size + 1, 2, none⟩ = some (.int .i64 0))) ∧ LwS w wr (A3, i, k3) (vA, vn, vc) 0 (A3, i, k3) (uA, un, uc) 0 W)
                      (first | (with_reducible assumption) | (with_reducible (refine lws_t ?_); repeat (first | (with_reducible assumption) | (with_reducible refine LwS.dr ?_) | (with_reducible refine LwS.put ?_ (by first | assumption | omega | (simp; omega)) _) | (with_reducible refine LwS.al ?_ _))))
                      (first
                        | (go_at_call 10; (with_reducible refine (HO1.out _ ?_).mono ?_); exact LwS.self (by repeat (first | (with_reducible assumption) | (with_reducible refine LwS.dr ?_) | (with_reducible refine LwS.al ?_ _))); rintro e w1 ⟨ha1, pa1, rfl, hav1, hb1⟩; have hst1 : LwS w wr (A3, i, k3) (vA, vn, vc) 0 (A3, i, k3) (uA, un, uc) 0 w1 := LwS.step (by repeat (first | (with_reducible assumption) | (with_reducible refine LwS.dr ?_) | (with_reducible refine LwS.al ?_ _))) hb1; have hat1 : AvAt noH (.nums sn (flL P l)) ha1 pa1 w1 := hav1; obtain ⟨hc1, hf1⟩ := bcell2 hb1; have hz1 := hb1.size; have hs1z := hst1.bel.size; (first | (have hsq1 : wr.heap.size < w1.heap.size := Nat.lt_of_lt_of_le (lt_al _ _) hz1) | (have hsq1 : wr.heap.size < w1.heap.size := Nat.lt_of_lt_of_le (lt_dr _ _) hz1) | skip); have HB1 := Lib.hid hb1; clear hb1 hav1)
                        | (go_at_call 10; (with_reducible refine (HO2.out _ ?_).mono ?_); exact LwS.self (by repeat (first | (with_reducible assumption) | (with_reducible refine LwS.dr ?_) | (with_reducible refine LwS.al ?_ _))); rintro e w2 ⟨ha2, pa2, rfl, hav2, hb2⟩; have hst2 : LwS w wr (A3, i, k3) (vA, vn, vc) 0 (A3, i, k3) (uA, un, uc) 0 w2 := LwS.step (by repeat (first | (with_reducible assumption) | (with_reducible refine LwS.dr ?_) | (with_reducible refine LwS.al ?_ _))) hb2; have hat2 : AvAt noH (.nums sn (flL P m)) ha2 pa2 w2 := hav2; have hat1' : AvAt noH (.nums sn (flL P l)) ha1 pa1 w2 := AvAt.step (by repeat (first | (with_reducible assumption) | (with_reducible refine AvAt.dr ?_) | (with_reducible refine AvAt.al ?_ _))) hb2; obtain ⟨hc2, hf2⟩ := bcell2 hb2; have hz2 := hb2.size; have hs2z := hst2.bel.size; (first | (have hsq2 : w1.heap.size < w2.heap.size := Nat.lt_of_lt_of_le (lt_al _ _) hz2) | (have hsq2 : w1.heap.size < w2.heap.size := Nat.lt_of_lt_of_le (lt_dr _ _) hz2) | (have hsq2 : w1.heap.size ≤ w2.heap.size := hz2) | skip); (first | (have hsr2 : wr.heap.size < w2.heap.size := Nat.lt_of_lt_of_le hsq1 (Nat.le_of_lt hsq2)) | (have hsr2 : wr.heap.size < w2.heap.size := Nat.lt_of_lt_of_le hsq1 hsq2) | skip); have HB2 := Lib.hid hb2; clear hb2 hav2)
                        | (go_at_call 9; (with_reducible refine (HTW.out _ _ _ _ _ ?_ ?_ ?_).mono ?_); exact LwS.self (by repeat (first | (with_reducible assumption) | (with_reducible refine LwS.dr ?_) | (with_reducible refine LwS.al ?_ _))); exact AvAt.self (by repeat (first | (with_reducible assumption) | (with_reducible refine AvAt.dr ?_) | (with_reducible refine AvAt.al ?_ _))); exact AvAt.self (by repeat (first | (with_reducible assumption) | (with_reducible refine AvAt.dr ?_) | (with_reducible refine AvAt.al ?_ _))); rintro e w5 ⟨h5, u5, rfl, hav5, hb5⟩; have hst5 : LwS w wr (A3, i, k3) (vA, vn, vc) 0 (A3, i, k3) (uA, un, uc) 0 w5 := LwS.step (by repeat (first | (with_reducible assumption) | (with_reducible refine LwS.dr ?_) | (with_reducible refine LwS.al ?_ _))) hb5; obtain ⟨hc5, hf5⟩ := bcell2 hb5; have hz5 := hb5.size; have hs5z := hst5.bel.size; (first | (have hsq5 : w2.heap.size < w5.heap.size := Nat.lt_of_lt_of_le (lt_al _ _) hz5) | (have hsq5 : w2.heap.size < w5.heap.size := Nat.lt_of_lt_of_le (lt_dr _ _) hz5) | (have hsq5 : w2.heap.size ≤ w5.heap.size := hz5) | skip); (first | (have hsr5 : wr.heap.size < w5.heap.size := Nat.lt_of_lt_of_le hsr2 hsq5) | skip); (first | (have hsr6 : w1.heap.size < w5.heap.size := Nat.lt_of_lt_of_le hsq2 hsq5) | skip); have HB5 := Lib.hid hb5; have HAV5 := Lib.hid hav5; clear hb5 hav5))
                    all_goals
                      go_wp2
                      go_meet
                      first
                        | (with_reducible exact lwMid_new HAV5.out hst5)
                        | (with_reducible refine lwMid_old HAV5.out hst5 (ZB.step ?_ HB5.out) ?_ ?_; all_goals (first | (with_reducible exact Nat.le_refl _) | exact hst1.bel.size | exact hst2.bel.size | (repeat (first | (with_reducible exact ZB.new _) | (with_reducible refine ZB.dr ?_) | (with_reducible refine ZB.step ?_ HB2.out) | (with_reducible refine ZB.step ?_ HB1.out)))))

                  obtain ⟨V, h3, p3, rfl, rfl, hVz, hVb, hav, hst⟩ := hcut
                  obtain ⟨ws, hws⟩ : ∃ ws, ws = wc := ⟨_, rfl⟩
                  subst hws
                  have HA3 : Hid (AV (fun b => b = V) ws (.nums sn (suL P l m)) h3 p3) := by
                    have h9 := hav.1 HR1.out.1
                    rw [HR1.out.2] at h9
                    exact h9
                  have HPQ := Lib.hid hst.bel
                  have HST : Hid (LvS w ws (A3, i, k3) (vA, vn, vc) 0 (A3, i, k3) (uA, un, uc) 0 V h3 p3 ws) := ⟨⟨hst.p2, Below.refl _ _, hst.p2.sz⟩, (at9_of hVb).1, lt_blk hVb⟩
                  have ne1 : (rr.1 == 0) = true := by rw [HR1.out.1]; rfl
                  have hO2 := HO2.out
                  have HO1 : Hid (∀ W, LvS w ws (A3, i, k3) (vA, vn, vc) 0 (A3, i, k3) (uA, un, uc) 0 V h3 p3 W → Calls Tryz.prog 10 #[plV (A3, i, k3) (uA, un, uc) 0] W (fun e w' => ∃ h p, e = .returned (arrV h p) ∧ AV noH w' (.nums sn (flL P m)) h p ∧ Below W.heap.size W w')) := fun W hs => hO2 W ⟨hs.lw.p2, bel_both HPQ.out hs.lw.bel, by have := hst.lo; omega⟩
                  have HTW := Lib.hid (fun (W : World) (u2 : Sl) (v2 : V8) (hs : LvS w ws (A3, i, k3) (vA, vn, vc) 0 (A3, i, k3) (uA, un, uc) 0 V h3 p3 W) => HTV.out V h3 p3 ws W u2 v2 hs.arr.lt (AV.step HA3.out hs.lw.bel))
                  clear hav hst hVb hVz hO2 HO2 HTV HSV
                  go_upto_region 17 with fail
                  go_cut [14, 15] from 104 (fun v e wx => LwMid w ws (A3, i, k3) (vA, vn, vc) 0 (A3, i, k3) (uA, un, uc) 0 r2 v e wx)
                  case first =>
                    have hs0 := HST.out.dr
                    have hs00 := HST.out
                    go_region_held3 (fun W => ((W.cell? ⟨V, 0, none⟩ = some (.slice h3.1 h3.2.1 h3.2.2) ∧ W.cell? ⟨V, 1, none⟩ = some (.int .i64 p3.k) ∧ W.cell? ⟨V, 2, none⟩ = some (.slice p3.b.1 p3.b.2.1 p3.b.2.2) ∧ W.cell? ⟨V, 3, none⟩ = some (.int .i64 p3.bn) ∧ W.cell? ⟨V, 4, none⟩ = some (.slice p3.s.1 p3.s.2.1 p3.s.2.2) ∧ W.cell? ⟨V, 5, none⟩ = some (.slice p3.i.1 p3.i.2.1 p3.i.2.2) ∧ W.cell? ⟨V, 6, none⟩ = some (.slice p3.f.1 p3.f.2.1 p3.f.2.2) ∧ W.cell? ⟨V, 7, none⟩ = some (.slice p3.c.1 p3.c.2.1 p3.c.2.2) ∧ W.cell? ⟨V, 8, none⟩ = some (.slice p3.x.1 p3.x.2.1 p3.x.2.2)) ∧ (((W.cell? ⟨w.heap.size, 0, none⟩ = some (.slice A3 i k3) ∧ W.cell? ⟨w.heap.size, 1, none⟩ = some (.slice vA vn vc) ∧ W.cell? ⟨w.heap.size, 2, none⟩ = some (.int .i64 0)) ∧ (W.cell? ⟨w.heap.size + 1, 0, none⟩ = some (.slice A3 i k3) ∧ W.cell? ⟨w.heap.size + 1, 1, none⟩ = some (.slice uA un uc) ∧ W.cell? ⟨w.heap.size + 1, 2, none⟩ = some (.int .i64 0))))) ∧ LvS w ws (A3, i, k3) (vA, vn, vc) 0 (A3, i, k3) (uA, un, uc) 0 V h3 p3 W)
                      (first | (with_reducible assumption) | (with_reducible (refine lvs_t ?_); repeat (first | (with_reducible assumption) | (with_reducible refine LvS.dr ?_) | (with_reducible refine LvS.put ?_ (by first | assumption | omega | (simp; omega)) _) | (with_reducible refine LvS.al ?_ _))))
                      (first
                        | (go_at_call 10; (with_reducible refine (HO1.out _ ?_).mono ?_); exact LvS.self (by repeat (first | (with_reducible assumption) | (with_reducible refine LvS.dr ?_) | (with_reducible refine LvS.al ?_ _))); rintro e w1 ⟨ha1, pa1, rfl, hav1, hb1⟩; have hst1 : LvS w ws (A3, i, k3) (vA, vn, vc) 0 (A3, i, k3) (uA, un, uc) 0 V h3 p3 w1 := LvS.step (by repeat (first | (with_reducible assumption) | (with_reducible refine LvS.dr ?_) | (with_reducible refine LvS.al ?_ _))) hb1; have hat1 : AvAt noH (.nums sn (flL P m)) ha1 pa1 w1 := hav1; obtain ⟨hc1, hfz1⟩ := bcell2 hb1; have hz1 := hb1.size; have hs1z := hst1.lw.bel.size; (first | (have hsq1 : ws.heap.size < w1.heap.size := Nat.lt_of_lt_of_le (lt_al _ _) hz1) | (have hsq1 : ws.heap.size < w1.heap.size := Nat.lt_of_lt_of_le (lt_dr _ _) hz1) | skip); have HB1 := Lib.hid hb1; clear hb1 hav1)
                        | (go_at_call 9; (with_reducible refine (HTW.out _ _ _ ?_ ?_).mono ?_); exact LvS.self (by repeat (first | (with_reducible assumption) | (with_reducible refine LvS.dr ?_) | (with_reducible refine LvS.al ?_ _))); exact AvAt.self (by repeat (first | (with_reducible assumption) | (with_reducible refine AvAt.dr ?_) | (with_reducible refine AvAt.al ?_ _))); rintro e w5 ⟨h5, u5, rfl, hav5, hb5⟩; have hst5 : LvS w ws (A3, i, k3) (vA, vn, vc) 0 (A3, i, k3) (uA, un, uc) 0 V h3 p3 w5 := LvS.step (by repeat (first | (with_reducible assumption) | (with_reducible refine LvS.dr ?_) | (with_reducible refine LvS.al ?_ _))) hb5; obtain ⟨hc5, hfz5⟩ := bcell2 hb5; have hz5 := hb5.size; have hs5z := hst5.lw.bel.size; (first | (have hsq5 : w1.heap.size < w5.heap.size := Nat.lt_of_lt_of_le (lt_al _ _) hz5) | (have hsq5 : w1.heap.size < w5.heap.size := Nat.lt_of_lt_of_le (lt_dr _ _) hz5) | (have hsq5 : w1.heap.size ≤ w5.heap.size := hz5) | skip); (first | (have hsr5 : ws.heap.size < w5.heap.size := Nat.lt_of_lt_of_le hsq1 (Nat.le_of_lt hsq5)) | (have hsr5 : ws.heap.size < w5.heap.size := Nat.lt_of_lt_of_le hsq1 hsq5) | skip); have HB5 := Lib.hid hb5; have HAV5 := Lib.hid hav5; clear hb5 hav5))
                    all_goals
                      go_wp2
                      go_meet
                      first
                        | (with_reducible exact lwMid_new HAV5.out hst5.lw)
                        | (with_reducible refine lwMid_old HAV5.out hst5.lw (ZB.step ?_ HB5.out) ?_ ?_; all_goals (first | (with_reducible exact Nat.le_refl _) | exact hst1.lw.bel.size | (repeat (first | (with_reducible exact ZB.new _) | (with_reducible refine ZB.dr ?_) | (with_reducible refine ZB.step ?_ HB1.out)))))

                  obtain ⟨V4, h4, p4, rfl, rfl, hVz, hVb, hav, hst⟩ := hcut
                  obtain ⟨wu, hwu⟩ : ∃ wu, wu = wc := ⟨_, rfl⟩
                  subst hwu
                  have hav2 := hav.1 HR2.out.1
                  rw [HR2.out.2] at hav2
                  have HSHOW : Hid (Calls Tryz.prog 13 #[arrV h4 p4, .int .i64 r2.1, plV (A3, i, k3) (vA, vn, vc) 0, .int .i64 0] wu fun e w' => e = .returned (.bool true) ∧ Below wu.heap.size wu w') := by
                    unfold Hid
                    rw [HR2.out.1]
                    exact shows24_ok (fun b e => by subst e; exact lt_blk hVb) HG1.out HM1.out hav2 (HPV1.out.step (bel_both HPQ.out hst.bel))
                  have HBW := Lib.hid hst.p2.bel
                  obtain ⟨⟨c0, c1, c2, c3, c4, c5, c6, c7, c8⟩, cz⟩ := at9_of hVb
                  obtain ⟨d0, d1, d2⟩ := at3_c hst.p2.one
                  dsimp only at d0 d1 d2
                  clear hav hav2 hst hVb hVz HST HO1 HTW HA3
                  go_wp2_with fail
                  refine HSHOW.out.mono ?_
                  rintro e w7 ⟨rfl, hb⟩
                  have HB7 := Lib.hid (bel_both HBW.out hb)
                  clear hb c0 c1 c2 c3 c4 c5 c6 c7 c8 d0 d1 d2 cz
                  go_wp2_with fail
                  refine (HAW.out _).mono ?_
                  rintro e w8 ⟨rfl, hb⟩
                  have HB8 := Lib.hid (bel_both HB7.out hb)
                  clear hb
                  go_wp2
                  go_ret
                  exact ⟨rfl, HB8.out⟩
end Go.Proofs.YtiahegjdkejjpaaGreat
