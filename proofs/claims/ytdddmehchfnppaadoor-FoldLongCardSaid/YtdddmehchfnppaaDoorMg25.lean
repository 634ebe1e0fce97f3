/- The walk of squeeze.Into, whatever the stores are. Conditions: as each theorem says. -/
import Derived.Test.YtdddmehchfnppaaDoorMg24
namespace Go.Proofs.YtdddmehchfnppaaDoor
open Go Go.RowKit Go.Proofs Fl

/-- do n numbers fit a store? -/
noncomputable def fitB (kd : Int) (F : Nat → Nat) (n : Nat) : Bool :=
  if kd = 1 then (List.range n).all fun j => isT (F j) else if kd = 2 then (List.range n).all fun j => smallB (F j) else if kd = 3 then (List.range n).all fun j => (wholeP (F j)).isSome else true
/-- what squeeze.Into tells: a Vec of the same numbers in the store asked for, or nothing -/
def PI (kd : Int) (n : Nat) (F : Nat → Nat) (u : Value) (t : Bool) (W : World) : Prop :=
  t = fitB kd F n ∧ (t = true → NumV u kd n F W) ∧ (t = false → u = vecV 0 vnil 0 vnil vnil vnil vnil vnil)
/-- a Vec and a truth are told -/
def Sub (H : Nat → Prop) (W : World) (P : Value → Bool → World → Prop) (e : Ending) (w' : World) : Prop :=
  ∃ (k : Int) (b : Sl) (bn : Int) (s i f c x : Sl) (t : Bool), e = .returned (.tuple #[vecW k b bn s i f c x, .bool t]) ∧ Keeps H w' (P (vecW k b bn s i f c x) t) ∧ Below W.heap.size W w'

theorem NumV.congr {v : Value} {k : Int} {n : Nat} {F F' : Nat → Nat} {w : World} (h : NumV v k n F w) (e : ∀ j, j < n → F' j = F j) : NumV v k n F' w :=
  ⟨h.cls, h.len, fun j hj => by rw [e j hj]; exact h.num j hj, fun hk j hj z hz hz2 => h.wholeI hk j hj z hz (by rw [← e j hj]; exact hz2), h.wholeF, fun hk j hj => by rw [e j hj]; exact h.ints hk j hj, fun j hj => by rw [e j hj]; exact h.tf j hj, h.kind, fun hk => by obtain ⟨l, s, h1, h2, h3⟩ := h.bitsX hk; exact ⟨l, s, h1, h2, fun j hj => by rw [e j hj]; exact h3 j hj⟩, fun hk => by obtain ⟨l, s, h1, h2, h3⟩ := h.intsX hk; exact ⟨l, s, h1, h2, fun j hj => by rw [e j hj]; exact h3 j hj⟩, h.shape⟩

theorem all_range {n : Nat} {p : Nat → Bool} : (List.range n).all p = true ↔ ∀ j, j < n → p j = true := by
  rw [List.all_eq_true]
  exact ⟨fun h j hj => h j (List.mem_range.2 hj), fun h j hj => h j (List.mem_range.1 hj)⟩
theorem all_bad {n K : Nat} {p : Nat → Bool} (hK : K < n) (hp : p K = false) : (List.range n).all p = false := by
  cases h : (List.range n).all p with
  | false => rfl
  | true => rw [all_range.1 h K hK] at hp; cases hp

theorem flag_tv {b : Nat} (h : isT b = true) : flagF (tv b) = b := by
  unfold isT at h
  rcases of_decide_eq_true h with rfl | rfl
  · rfl
  · rfl

theorem Keeps.noVec {H : Nat → Prop} {W : World} {kd : Int} {n : Nat} {F : Nat → Nat} (h : fitB kd F n = false) : Keeps H W (PI kd n F (vecW 0 (none, 0, 0) 0 (none, 0, 0) (none, 0, 0) (none, 0, 0) (none, 0, 0) (none, 0, 0)) false) :=
  fun _ _ _ => ⟨h.symm, (fun e => by cases e), fun _ => rfl⟩

theorem intoBits_sub (H : Nat → Prop) (k : Int) (b : Value) (bn : Int) (s i f c x : Value) (n : Nat) (F : Nat → Nat) (w : World) (hH : ∀ b, H b → b < w.heap.size) (hn : n ≤ 1000000)
    (hN : ∀ W, Below w.heap.size w W → NumV (vecV k b bn s i f c x) k n F W) :
    Calls Tryd.prog 49 #[vecV k b bn s i f c x] w (Sub H w (PI 1 n F)) := by
  have main : ∀ K, K ≤ n → (∀ j, j < K → isT (F j) = true) → (K < n → isT (F K) = false) → Calls Tryd.prog 49 #[vecV k b bn s i f c x] w (Sub H w (PI 1 n F)) := by
    intro K hK hy hno
    refine (intoBits_any k b bn s i f c x n K F w (by omega) hN hK hy hno).mono ?_
    rintro e w' (⟨hKn, g, rfl, hr, hb⟩ | ⟨hKn, rfl, hb⟩)
    · have hfit : fitB 1 F n = true := by
        unfold fitB
        rw [if_pos rfl, all_range]
        intro j hj
        exact hy j (by omega)
      refine ⟨1, (some ⟨g, 0, none⟩, (n + 63) / 64, (n + 63) / 64), n, (none, 0, 0), (none, 0, 0), (none, 0, 0), (none, 0, 0), (none, 0, 0), true, rfl, ?_, hb⟩
      refine (Own1.keepsH hr hH).imp fun W' h2 => ⟨hfit.symm, fun _ => ?_, fun e => by cases e⟩
      exact (numV_bits (by omega) ⟨_, rfl, ⟨g, 0, _, rfl, fun j hj => reads_cell h2 j hj⟩⟩).congr fun j hj => (flag_tv (hy j (by omega))).symm
    · have hfit : fitB 1 F n = false := by unfold fitB; rw [if_pos rfl]; exact all_bad hKn (hno hKn)
      exact ⟨0, (none, 0, 0), 0, (none, 0, 0), (none, 0, 0), (none, 0, 0), (none, 0, 0), (none, 0, 0), false, rfl, Keeps.noVec hfit, hb⟩
  rcases first_bad (fun j => isT (F j)) n with h | ⟨K, h1, h2, h3⟩
  · exact main n (Nat.le_refl _) h (fun h => absurd h (Nat.lt_irrefl _))
  · exact main K (by omega) h3 (fun _ => h2)

theorem fi_zOf {b : Nat} {z : Int} (h : wholeP b = some z) : fi (zOf b) = b := by rw [zOf_of h]; exact (wholeP_some h).2.symm

theorem intoSmalls_sub (H : Nat → Prop) (k : Int) (b : Value) (bn : Int) (s i f c x : Value) (n : Nat) (F : Nat → Nat) (w : World) (hH : ∀ b, H b → b < w.heap.size) (hn : n ≤ 1000000)
    (hN : ∀ W, Below w.heap.size w W → NumV (vecV k b bn s i f c x) k n F W) :
    Calls Tryd.prog 50 #[vecV k b bn s i f c x] w (Sub H w (PI 2 n F)) := by
  have main : ∀ K, K ≤ n → (∀ j, j < K → smallB (F j) = true) → (K < n → smallB (F K) = false) → Calls Tryd.prog 50 #[vecV k b bn s i f c x] w (Sub H w (PI 2 n F)) := by
    intro K hK hy hno
    refine (intoSmalls_any k b bn s i f c x n K F w hn hN hK hy hno).mono ?_
    rintro e w' (⟨hKn, a, n', c', rfl, ho, hb⟩ | ⟨hKn, rfl, hb⟩)
    · have hfit : fitB 2 F n = true := by
        unfold fitB
        rw [if_neg (by decide), if_pos rfl, all_range]
        intro j hj
        exact hy j (by omega)
      refine ⟨2, (none, 0, 0), 0, (a, n', c'), (none, 0, 0), (none, 0, 0), (none, 0, 0), (none, 0, 0), true, rfl, ?_, hb⟩
      refine (Own1.keepsH ho hH).imp fun W' h2 => ⟨hfit.symm, fun _ => ?_, fun e => by cases e⟩
      refine (numV_small (l := fun j => zOf (F j)) ⟨⟨_, rfl, h2⟩, fun j hj => ?_⟩).congr fun j hj => ?_
      · obtain ⟨z, hz, h3, h4⟩ := smallB_of (hy j (by omega))
        show -128 ≤ zOf (F j) ∧ zOf (F j) ≤ 127
        rw [zOf_of hz]
        exact ⟨h3, h4⟩
      · obtain ⟨z, hz, h3, h4⟩ := smallB_of (hy j (by omega))
        exact (fi_zOf hz).symm
    · have hfit : fitB 2 F n = false := by unfold fitB; rw [if_neg (by decide), if_pos rfl]; exact all_bad hKn (hno hKn)
      exact ⟨0, (none, 0, 0), 0, (none, 0, 0), (none, 0, 0), (none, 0, 0), (none, 0, 0), (none, 0, 0), false, rfl, Keeps.noVec hfit, hb⟩
  rcases first_bad (fun j => smallB (F j)) n with h | ⟨K, h1, h2, h3⟩
  · exact main n (Nat.le_refl _) h (fun h => absurd h (Nat.lt_irrefl _))
  · exact main K (by omega) h3 (fun _ => h2)

theorem Keeps.subH {H : Nat → Prop} {w W w' : World} {R : World → Prop} (h : Keeps (Hole H w W) w' R) : Keeps H w' R := h.sub fun _ _ e => .inl e

set_option maxRecDepth 100000 in
set_option maxHeartbeats 1000000 in
theorem into_1 (H : Nat → Prop) (P : Value → Bool → World → Prop) (k : Int) (b : Value) (bn : Int) (s i f c x : Value) (w : World) (hk : k ≠ 1) (hk0 : k ≠ 0) (hH : ∀ b, H b → b < w.heap.size)
    (hcl : ∀ W, Below w.heap.size w W → Calls Tryd.prog 27 #[vecV k b bn s i f c x] W fun e w2 => e = .returned (.int .i64 0) ∧ Below W.heap.size W w2)
    (hs : ∀ W H', Below w.heap.size w W → (∀ b, H' b → b < W.heap.size) → Calls Tryd.prog 49 #[vecV k b bn s i f c x] W (Sub H' W P)) :
    Calls Tryd.prog 25 #[vecV k b bn s i f c x, .int .i64 1] w (Sub H w P) := by
  have HK := Lib.hid (fun W => kind_any k b bn s i f c x W)
  have HC := Lib.hid hcl
  have HI := Lib.hid (fun (W : World) (hb : Below w.heap.size w W) => hs W (Hole H w W) hb (Hole.lt hH hb))
  clear hcl hs hH
  have e2 : (k == 1) = false := by simpa using hk
  have e0 : (k == 0) = false := by simpa using hk0
  go_enter Tryd.func25, Tryd.ntmps25
  go_wp2_with fail
  refine (HK.out _).mono ?_
  rintro e w1 ⟨rfl, hb1⟩
  have HS1 := Lib.hid ((St.new w k b bn s i f c x).step hb1)
  obtain ⟨h0, h1, h2, h3, h4, h5, h6, h7⟩ := HS1.out.box
  clear hb1
  go_wp2_with fail
  refine (HC.out _ HS1.out.bel).mono ?_
  rintro e w2 ⟨rfl, hb2⟩
  have HS2 := Lib.hid (HS1.out.step hb2)
  clear hb2 h0 h1 h2 h3 h4 h5 h6 h7 HS1
  obtain ⟨h0, h1, h2, h3, h4, h5, h6, h7⟩ := HS2.out.box
  go_wp2_with fail
  refine (HK.out _).mono ?_
  rintro e w3 ⟨rfl, hb3⟩
  have HS3 := Lib.hid (HS2.out.step hb3)
  clear hb3 h0 h1 h2 h3 h4 h5 h6 h7 HS2
  obtain ⟨h0, h1, h2, h3, h4, h5, h6, h7⟩ := HS3.out.box
  go_wp2_with fail
  refine (HI.out _ HS3.out.bel).mono ?_
  rintro e w4 ⟨k4, b4, bn4, s4, i4, f4, c4, x4, t, rfl, hk4, hb4⟩
  have HS4 := Lib.hid (HS3.out.step hb4)
  have HKE := Lib.hid (hk4.sub (H' := fun j => H j ∨ j = w.heap.size + 1) fun j _ e => e.imp id fun e => by have := HS3.out.sz; omega)
  clear hb4 hk4 h0 h1 h2 h3 h4 h5 h6 h7 HS3
  obtain ⟨⟨h0, h1, h2, h3, h4, h5, h6, h7⟩, hz⟩ := boxed_of HS4.out.res
  go_wp2
  refine bodyPost_ret (v := .tuple #[vecW k4 b4 bn4 s4 i4 f4 c4 x4, .bool t]) ?_ rfl ⟨k4, b4, bn4, s4, i4, f4, c4, x4, t, rfl, (HKE.out.set8 (.inr rfl) _ _ _ _ _ _ _ _).sub (fun _ _ e => .inl e), below_set8 HS4.out.bel (Nat.le_succ _) _ _ _ _ _ _ _ _⟩
  exact ret_vec2 (fn := Tryd.f25) (p := 4) (u := 5) rfl _ _ (w.heap.size + 1) (by rfl) (set8_block HS4.out.res _ _ _ _ _ _ _ _)

set_option maxRecDepth 100000 in
set_option maxHeartbeats 1000000 in
theorem into_2 (H : Nat → Prop) (P : Value → Bool → World → Prop) (k : Int) (b : Value) (bn : Int) (s i f c x : Value) (w : World) (hk : k ≠ 2) (hk0 : k ≠ 0) (hH : ∀ b, H b → b < w.heap.size)
    (hcl : ∀ W, Below w.heap.size w W → Calls Tryd.prog 27 #[vecV k b bn s i f c x] W fun e w2 => e = .returned (.int .i64 0) ∧ Below W.heap.size W w2)
    (hs : ∀ W H', Below w.heap.size w W → (∀ b, H' b → b < W.heap.size) → Calls Tryd.prog 50 #[vecV k b bn s i f c x] W (Sub H' W P)) :
    Calls Tryd.prog 25 #[vecV k b bn s i f c x, .int .i64 2] w (Sub H w P) := by
  have HK := Lib.hid (fun W => kind_any k b bn s i f c x W)
  have HC := Lib.hid hcl
  have HI := Lib.hid (fun (W : World) (hb : Below w.heap.size w W) => hs W (Hole H w W) hb (Hole.lt hH hb))
  clear hcl hs hH
  have e2 : (k == 2) = false := by simpa using hk
  have e0 : (k == 0) = false := by simpa using hk0
  go_enter Tryd.func25, Tryd.ntmps25
  go_wp2_with fail
  refine (HK.out _).mono ?_
  rintro e w1 ⟨rfl, hb1⟩
  have HS1 := Lib.hid ((St.new w k b bn s i f c x).step hb1)
  obtain ⟨h0, h1, h2, h3, h4, h5, h6, h7⟩ := HS1.out.box
  clear hb1
  go_wp2_with fail
  refine (HC.out _ HS1.out.bel).mono ?_
  rintro e w2 ⟨rfl, hb2⟩
  have HS2 := Lib.hid (HS1.out.step hb2)
  clear hb2 h0 h1 h2 h3 h4 h5 h6 h7 HS1
  obtain ⟨h0, h1, h2, h3, h4, h5, h6, h7⟩ := HS2.out.box
  go_wp2_with fail
  refine (HK.out _).mono ?_
  rintro e w3 ⟨rfl, hb3⟩
  have HS3 := Lib.hid (HS2.out.step hb3)
  clear hb3 h0 h1 h2 h3 h4 h5 h6 h7 HS2
  obtain ⟨h0, h1, h2, h3, h4, h5, h6, h7⟩ := HS3.out.box
  go_wp2_with fail
  refine (HI.out _ HS3.out.bel).mono ?_
  rintro e w4 ⟨k4, b4, bn4, s4, i4, f4, c4, x4, t, rfl, hk4, hb4⟩
  have HS4 := Lib.hid (HS3.out.step hb4)
  have HKE := Lib.hid (hk4.sub (H' := fun j => H j ∨ j = w.heap.size + 1) fun j _ e => e.imp id fun e => by have := HS3.out.sz; omega)
  clear hb4 hk4 h0 h1 h2 h3 h4 h5 h6 h7 HS3
  obtain ⟨⟨h0, h1, h2, h3, h4, h5, h6, h7⟩, hz⟩ := boxed_of HS4.out.res
  go_wp2
  refine bodyPost_ret (v := .tuple #[vecW k4 b4 bn4 s4 i4 f4 c4 x4, .bool t]) ?_ rfl ⟨k4, b4, bn4, s4, i4, f4, c4, x4, t, rfl, (HKE.out.set8 (.inr rfl) _ _ _ _ _ _ _ _).sub (fun _ _ e => .inl e), below_set8 HS4.out.bel (Nat.le_succ _) _ _ _ _ _ _ _ _⟩
  exact ret_vec2 (fn := Tryd.f25) (p := 4) (u := 5) rfl _ _ (w.heap.size + 1) (by rfl) (set8_block HS4.out.res _ _ _ _ _ _ _ _)
end Go.Proofs.YtdddmehchfnppaaDoor
