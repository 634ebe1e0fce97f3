/- The statement FoldLong, from what its parts tell. Conditions: as each theorem says. -/
import Derived.Test.YtdddmehchfnppaaDoorMg47
namespace Go.Proofs.YtdddmehchfnppaaDoor
open Go Go.RowKit Go.Proofs Fl

theorem okF_tf {b : Nat} (h : TF b) : okF b = true := by unfold okF; rw [doneP_tf h]; rfl
theorem tidF_tf {b : Nat} (h : TF b) : tidF b = b := by unfold tidF; rw [doneP_tf h]
theorem isT_flag (t : Bool) : isT (flagF t) = true := by cases t <;> decide
theorem fit1_flags (B : Nat → Bool) (n : Nat) : fitB 1 (fun j => flagF (B j)) n = true := by
  unfold fitB
  rw [if_pos rfl]
  exact all_range.2 fun j _ => isT_flag (B j)

/-- kept at tidy numbers -/
theorem kept_tf (kd : Int) (n T : Nat) (F : Nat → Nat) (W : World) (v : Value) (hT : T ≤ 1000000) (hv : Reads1 W v ((List.range T).map fun j => .float .f64 (F j))) (hF : ∀ j, j < T → TF (F j))
    (h3 : 2 ≤ n → 0 < T ∨ ((kd = 1 ∨ kd = 2) ∧ fitB kd F T = true)) :
    Calls Tryd.prog 9 #[v, .int .i64 kd] W (KeptK n T F W) := by
  refine (kept_all (fun _ => False) v kd T F W (fun _ h => h.elim) hT hv (fun j hj => (hF j hj).lt)).mono ?_
  have e : ∀ j, j < T → tidF (F j) = F j := fun j hj => tidF_tf (hF j hj)
  rintro e0 w' (⟨_, k, b, bn, s, i, f, cc, x, rfl, hk, hn, hb⟩ | ⟨⟨j, hj, h0⟩, _⟩)
  · refine ⟨k, b, bn, s, i, f, cc, x, rfl, hn.imp fun W' h => h.congr fun j hj => (e j hj).symm, fun h2 hk3 => ?_, hb⟩
    rcases h3 h2 with h | ⟨h, hfit⟩
    · exact h
    · by_cases hT0 : T = 0
      · have hfit2 : fitB kd (fun j => tidF (F j)) T = true := by
          rw [← hfit]
          unfold fitB
          rw [hT0]
          rfl
        have := hk (by omega) hfit2
        omega
      · omega
  · rw [okF_tf (hF j hj)] at h0; cases h0

theorem foldLong_any {w : World} {v1 v2 : Value} {n1 n2 : Nat} {B : Nat → Bool} {L : Nat → Int} (f : Int) (h1 : BRow w v1 n1 B) (x : Int) (hx : 0 ≤ x ∧ x ≤ 255) (h2 : LRow w v2 n2 L) (ht : TzTab w) :
    Calls Tryd.prog 3 #[.int .i64 f, v1, .int .u8 x, v2] w fun e w' => e = .returned (.bool true) ∧ Below w.heap.size w w' := by
  obtain ⟨⟨a1, c1, rfl, _⟩, hb⟩ := h1
  obtain ⟨⟨a2, c2, rfl, _⟩, hl, _⟩ := h2
  by_cases hin : n1 ≤ 600 ∧ n2 ≤ 100
  · obtain ⟨hn1, hn2⟩ := hin
    obtain ⟨k, hk⟩ : ∃ k : Nat, x % 100 + 1 = (k : Int) := ⟨(x % 100 + 1).toNat, by omega⟩
    have k0 : 0 < k := by omega
    have k1 : k ≤ 100 := by omega
    have hm1 : n1 / k ≤ n1 := Nat.div_le_self n1 k
    have hT1 : n1 / k * k ≤ n1 := Nat.div_mul_le_self n1 k
    rcases first_bad (fun j => decide (-9007199254740992 ≤ L j ∧ L j ≤ 9007199254740992)) n2 with hall | ⟨K, hK, hbad, hlow⟩
    · have hS : ∀ j, j < n2 → -9007199254740992 ≤ L j ∧ L j ≤ 9007199254740992 := fun j hj => of_decide_eq_true (hall j hj)
      obtain ⟨N1, O1, E1, b1, t1, f1, r1⟩ := fold_same f (n1 / k * k) (n1 / k) k 1 (fun j => flagF (B j)) w (by rw [Nat.mul_one]) (by omega) (by omega) (by omega) (by omega) (by omega) (fun j _ => tf_flag _) ht
      obtain ⟨N2, O2, E2, b2, t2, f2, r2⟩ := fold_same f n2 1 n2 1 (fun j => fi (L j)) w (by omega) (by omega) (by omega) (by omega) (by omega) (by omega) (fun j hj => tf_fi (hS j hj)) ht
      exact foldLong_walk f a1 a2 n1 c1 n2 c2 k (n1 / k) (n1 / k * k) x hx hk rfl rfl hn1 hn2 B L w hb hl hS N1 N2 O1 O2 E1 E2 b1 b2 t1 t2
        (fun W v hb hv => kept_tf 1 k _ _ W v (by omega) hv (fun j _ => tf_flag _) (fun _ => .inr ⟨.inl rfl, fit1_flags _ _⟩))
        (fun W v hb hv => kept_tf 3 n2 _ _ W v (by omega) hv (fun j hj => tf_fi (hS j hj)) (fun h => .inl (by omega)))
        f1 r1 f2 r2
    · exact foldLong_bad f a1 a2 n1 c1 n2 c2 k (n1 / k) (n1 / k * k) x hx hk rfl rfl hn1 hn2 B L w hb hl K hK (fun j hj => of_decide_eq_true (hlow j hj)) (of_decide_eq_false hbad)
  · exact foldLong_far f a1 a2 n1 c1 n2 c2 x hx w (by omega)
end Go.Proofs.YtdddmehchfnppaaDoor
