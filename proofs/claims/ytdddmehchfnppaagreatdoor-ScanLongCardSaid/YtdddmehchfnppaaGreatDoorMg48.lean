/- The law ScanLong. Conditions: as each theorem says. -/
import Derived.Test.YtdddmehchfnppaaGreatDoorMg47
namespace Go.Proofs.YtdddmehchfnppaaGreatDoor
open Go Go.RowKit Go.Proofs Fl

theorem scanLong_any {w : World} {v1 v2 : Value} {n1 n2 : Nat} {B : Nat → Bool} {L : Nat → Int} (f : Int) (h1 : BRow w v1 n1 B) (x : Int) (hx : 0 ≤ x ∧ x ≤ 255) (h2 : LRow w v2 n2 L) (ht : TzTab w) :
    Calls Tryz.prog 5 #[.int .i64 f, v1, .int .u8 x, v2] w fun e w' => e = .returned (.bool true) ∧ Below w.heap.size w w' := by
  obtain ⟨⟨a1, c1, rfl, _⟩, hb⟩ := h1
  obtain ⟨⟨a2, c2, rfl, _⟩, hl, _⟩ := h2
  by_cases hin : n1 ≤ 300 ∧ n2 ≤ 60
  · obtain ⟨hn1, hn2⟩ := hin
    obtain ⟨k, hk⟩ : ∃ k : Nat, x % 80 + 1 = (k : Int) := ⟨(x % 80 + 1).toNat, by omega⟩
    have k0 : 0 < k := by omega
    have k1 : k ≤ 80 := by omega
    have hm1 : n1 / k ≤ n1 := Nat.div_le_self n1 k
    have hT1 : n1 / k * k ≤ n1 := Nat.div_mul_le_self n1 k
    rcases first_bad (fun j => decide (-9007199254740992 ≤ L j ∧ L j ≤ 9007199254740992)) n2 with hall | ⟨K, hK, hbad, hlow⟩
    · have hS : ∀ j, j < n2 → -9007199254740992 ≤ L j ∧ L j ≤ 9007199254740992 := fun j hj => of_decide_eq_true (hall j hj)
      obtain ⟨N1, O1, E1, b1, t1, f1, r1⟩ := scan_same f (n1 / k * k) (n1 / k) k (fun j => flagF (B j)) w rfl (by omega) (by omega) (fun j _ => tf_flag _) ht
      obtain ⟨N2, O2, E2, N3, O3, E3, b2, t2, f2, r2, f3, hfin⟩ := scan_fold f n2 (fun j => fi (L j)) w (by omega) (fun j hj => tf_fi (hS j hj)) ht
      exact scanLong_walk f a1 a2 n1 c1 n2 c2 k (n1 / k) (n1 / k * k) x hx hk rfl rfl hn1 hn2 B L w hb hl hS N1 N2 O1 O2 E1 E2 b1 b2 t1 t2
        (fun W v hb hv => skept_tf 1 k _ _ W v (by omega) hv (fun j _ => tf_flag _) (fun _ => .inr ⟨.inl rfl, fit1_flags _ _⟩))
        (fun W v hb hv => skept_tf 3 n2 _ _ W v (by omega) hv (fun j hj => tf_fi (hS j hj)) (fun h => .inl (by omega)))
        f1 r1 f2 r2 N3 O3 E3 f3 hfin
    · exact scanLong_bad f a1 a2 n1 c1 n2 c2 k (n1 / k) (n1 / k * k) x hx hk rfl rfl hn1 hn2 B L w hb hl K hK (fun j hj => of_decide_eq_true (hlow j hj)) (of_decide_eq_false hbad)
  · exact scanLong_far f a1 a2 n1 c1 n2 c2 x hx w (by omega)
end Go.Proofs.YtdddmehchfnppaaGreatDoor
