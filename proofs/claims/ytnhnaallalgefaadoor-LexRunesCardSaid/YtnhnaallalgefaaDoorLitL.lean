/- The walks of lit.Read and of the reference's Read: both tell the same. Conditions: as each theorem says. -/
import Derived.Test.YtnhnaallalgefaaDoorLitF
import Derived.Test.YtnhnaallalgefaaDoorLitK
namespace Go.Proofs.YtnhnaallalgefaaDoor
open Go Go.RowKit Go.Proofs Fl

/-- what Read tells of what its reading comes to -/
def ReadTells (r : Option (Nat × Nat)) (at_ : Int) (e : Ending) : Prop :=
  match r with
  | some (b, j) => e = .returned (.tuple #[.float .f64 b, .int .i64 j, .bool true])
  | none => e = .returned (.tuple #[.float .f64 0, .int .i64 at_, .bool false])

theorem readS_out {l : List Int} {at_ : Int} (h : ¬ (0 ≤ at_ ∧ at_ < l.length)) : readS l at_ = none := if_neg h
theorem readS_none {l : List Int} {k : Nat} (h : k < l.length) (hw : wholeS l k = none) : readS l k = none := by
  unfold readS; rw [if_pos ⟨by omega, by omega⟩]; simp only [Int.toNat_natCast, hw]
theorem readS_int {l : List Int} {k : Nat} (h : k < l.length) {n : Int} {e : Nat} (hw : wholeS l k = some (n, e)) (hp : ¬ l[e]? = some 112) : readS l k = some (floatOfInt .f64 n, e) := by
  unfold readS; rw [if_pos ⟨by omega, by omega⟩]; simp only [Int.toNat_natCast, hw, hp, if_false]
theorem readS_p {l : List Int} {k : Nat} (h : k < l.length) {n : Int} {e : Nat} (hw : wholeS l k = some (n, e)) (hp : l[e]? = some 112) :
    readS l k = match wholeS l (e + 1) with | none => none | some (p, e2) => (scaleS n p).map fun b => (b, e2) := by
  unfold readS; rw [if_pos ⟨by omega, by omega⟩]; simp only [Int.toNat_natCast, hw, hp, if_true]
  cases wholeS l (e + 1) <;> rfl
theorem scaleV_some {n p : Int} {b : Nat} (h : scaleS n p = some b) : scaleV n p = .tuple #[.float .f64 b, .bool true] := scaleV_yes h

set_option maxHeartbeats 400000 in
theorem lread_neg (v : Value) (at_ : Int) (h : at_ < 0) (w : World) :
    Calls Tryd.prog 17 #[v, .int .i64 at_] w fun e w' => ReadTells none at_ e ∧ w = w' := by
  go_enter Tryd.func17, Tryd.ntmps17
  go_wp2
  go_ret3
  exact ⟨rfl, rfl⟩

set_option maxHeartbeats 400000 in
theorem lread_far (a : Option Addr) (n c : Nat) (at_ : Int) (h : (n : Int) ≤ at_) (w : World) :
    Calls Tryd.prog 17 #[.slice a n c, .int .i64 at_] w fun e w' => ReadTells none at_ e ∧ w = w' := by
  go_enter Tryd.func17, Tryd.ntmps17
  go_wp2
  go_ret3
  exact ⟨rfl, rfl⟩

set_option maxHeartbeats 400000 in
theorem lread_bad (a : Option Addr) (n c k : Nat) (h : k < n) (w : World)
    (hd : ∀ w0, w = w0 → Calls Tryd.prog 62 #[.slice a n c, .int .i64 k] w0 fun e w' => WholeTells none e ∧ w0 = w') :
    Calls Tryd.prog 17 #[.slice a n c, .int .i64 k] w fun e w' => ReadTells none k e ∧ w = w' := by
  have HD := Lib.hid (hd w rfl)
  clear hd
  go_enter Tryd.func17, Tryd.ntmps17
  go_wp2_with fail
  refine HD.out.mono ?_
  rintro x w' ⟨⟨a1, j1, rfl⟩, rfl⟩
  go_wp2
  go_ret3
  exact ⟨rfl, rfl⟩

set_option maxHeartbeats 400000 in
theorem lread_int_end (a : Option Addr) (n c k e : Nat) (v : Int) (h : k < n) (he : (e : Int) = n) (w : World)
    (hd : Calls Tryd.prog 62 #[.slice a n c, .int .i64 k] w fun x w' => WholeTells (some (v, e)) x ∧ w = w') :
    Calls Tryd.prog 17 #[.slice a n c, .int .i64 k] w fun x w' => ReadTells (some (floatOfInt .f64 v, e)) k x ∧ w = w' := by
  obtain rfl : e = n := by omega
  have HD := Lib.hid hd
  clear hd he
  go_enter Tryd.func17, Tryd.ntmps17
  go_wp2_with fail
  refine HD.out.mono ?_
  rintro x w' ⟨rfl, rfl⟩
  go_wp2
  go_ret3
  exact ⟨rfl, rfl⟩

set_option maxHeartbeats 400000 in
theorem lread_int_in (b o n c k e : Nat) (v x0 : Int) (h : k < n) (he : e < n) (w : World) (hc : w.cell? ⟨b, o + e, none⟩ = some (.int .i32 x0)) (hx : (x0 == 112) = false)
    (hd : Calls Tryd.prog 62 #[.slice (some ⟨b, o, none⟩) n c, .int .i64 k] w fun x w' => WholeTells (some (v, e)) x ∧ w = w') :
    Calls Tryd.prog 17 #[.slice (some ⟨b, o, none⟩) n c, .int .i64 k] w fun x w' => ReadTells (some (floatOfInt .f64 v, e)) k x ∧ w = w' := by
  have HD := Lib.hid hd
  have hxn : (x0 != 112) = true := by rw [bne, hx]; rfl
  have hen : ((e : Int) == (n : Int)) = false := beq_eq_false_iff_ne.2 (by omega)
  clear hd
  go_enter Tryd.func17, Tryd.ntmps17
  go_wp2_with fail
  refine HD.out.mono ?_
  rintro x w' ⟨rfl, rfl⟩
  go_wp2
  go_ret3
  exact ⟨rfl, rfl⟩

set_option maxHeartbeats 400000 in
theorem lread_p_bad (b o n c k e : Nat) (v : Int) (h : k < n) (he : e < n) (hm : n ≤ 4611686018427387904) (w : World) (hc : w.cell? ⟨b, o + e, none⟩ = some (.int .i32 112))
    (hd : Calls Tryd.prog 62 #[.slice (some ⟨b, o, none⟩) n c, .int .i64 k] w fun x w' => WholeTells (some (v, e)) x ∧ w = w')
    (hd2 : Calls Tryd.prog 62 #[.slice (some ⟨b, o, none⟩) n c, .int .i64 ((e : Int) + 1)] w fun x w' => WholeTells none x ∧ w = w') :
    Calls Tryd.prog 17 #[.slice (some ⟨b, o, none⟩) n c, .int .i64 k] w fun x w' => ReadTells none k x ∧ w = w' := by
  have HD := Lib.hid hd
  have HD2 := Lib.hid hd2
  have hen : ((e : Int) == (n : Int)) = false := beq_eq_false_iff_ne.2 (by omega)
  clear hd hd2
  go_enter Tryd.func17, Tryd.ntmps17
  go_wp2_with fail
  refine HD.out.mono ?_
  rintro x w' ⟨rfl, rfl⟩
  go_wp2_with fail
  refine HD2.out.mono ?_
  rintro x w' ⟨⟨a1, j1, rfl⟩, rfl⟩
  go_wp2
  go_ret3
  exact ⟨rfl, rfl⟩

set_option maxHeartbeats 400000 in
theorem lread_p (b o n c k e e2 : Nat) (v p : Int) (h : k < n) (he : e < n) (hm : n ≤ 4611686018427387904) (w : World) (hc : w.cell? ⟨b, o + e, none⟩ = some (.int .i32 112))
    (hd : Calls Tryd.prog 62 #[.slice (some ⟨b, o, none⟩) n c, .int .i64 k] w fun x w' => WholeTells (some (v, e)) x ∧ w = w')
    (hd2 : Calls Tryd.prog 62 #[.slice (some ⟨b, o, none⟩) n c, .int .i64 ((e : Int) + 1)] w fun x w' => WholeTells (some (p, e2)) x ∧ w = w')
    (hs : ∀ w, Calls Tryd.prog 21 #[.int .i64 v, .int .i64 p] w fun x w' => x = .returned (scaleV v p) ∧ w = w') :
    Calls Tryd.prog 17 #[.slice (some ⟨b, o, none⟩) n c, .int .i64 k] w fun x w' => ReadTells ((scaleS v p).map fun b => (b, e2)) k x ∧ w = w' := by
  have HD := Lib.hid hd
  have HD2 := Lib.hid hd2
  have hen : ((e : Int) == (n : Int)) = false := beq_eq_false_iff_ne.2 (by omega)
  cases hsc : scaleS v p with
  | none =>
    rw [scaleV_no hsc] at hs
    have HS := Lib.hid hs
    clear hd hd2 hs hsc
    go_enter Tryd.func17, Tryd.ntmps17
    go_wp2_with fail
    refine HD.out.mono ?_
    rintro x w' ⟨rfl, rfl⟩
    go_wp2_with fail
    refine HD2.out.mono ?_
    rintro x w' ⟨rfl, rfl⟩
    go_wp2_with fail
    refine (HS.out _).mono ?_
    rintro x w' ⟨rfl, rfl⟩
    go_wp2
    go_ret3
    exact ⟨rfl, rfl⟩
  | some bs =>
    rw [scaleV_yes hsc] at hs
    have HS := Lib.hid hs
    clear hd hd2 hs hsc
    go_enter Tryd.func17, Tryd.ntmps17
    go_wp2_with fail
    refine HD.out.mono ?_
    rintro x w' ⟨rfl, rfl⟩
    go_wp2_with fail
    refine HD2.out.mono ?_
    rintro x w' ⟨rfl, rfl⟩
    go_wp2_with fail
    refine (HS.out _).mono ?_
    rintro x w' ⟨rfl, rfl⟩
    go_wp2
    go_ret3
    exact ⟨rfl, rfl⟩

theorem lread_any {w : World} {v : Value} {l : List Int} (h : Runes w v l) (hm : l.length ≤ 4611686018427387903) (at_ : Int) :
    Calls Tryd.prog 17 #[v, .int .i64 at_] w fun e w' => ReadTells (readS l at_) at_ e ∧ w = w' := by
  by_cases h0 : at_ < 0
  · rw [readS_out (by omega)]; exact lread_neg v at_ h0 w
  by_cases h1 : (l.length : Int) ≤ at_
  · rw [readS_out (by omega)]
    rcases h with ⟨a, c, rfl, rfl⟩ | ⟨b, o, n, c, rfl, hn, hcs⟩
    · exact lread_far a 0 c at_ (by simpa using h1) w
    · exact lread_far _ n c at_ (by omega) w
  obtain ⟨k, rfl⟩ := Int.eq_ofNat_of_zero_le (show 0 ≤ at_ by omega)
  have hk : k < l.length := by omega
  have hcal := @whole_any w v l h (by omega)
  rcases h with ⟨a, c, rfl, rfl⟩ | ⟨b, o, n, c, rfl, hn, hcs⟩
  · simp at hk
  have hd := hcal k (by omega)
  cases hw : wholeS l k with
  | none =>
    rw [hw] at hd
    rw [readS_none hk hw]
    exact lread_bad _ n c k (by omega) w (fun w0 e => by subst e; exact hd)
  | some pr =>
    obtain ⟨n1, e1⟩ := pr
    rw [hw] at hd
    have hb := wholeS_bounds hw (by omega)
    by_cases hp : l[e1]? = some 112
    · rw [readS_p hk hw hp]
      obtain ⟨hlt, hget⟩ := List.getElem?_eq_some_iff.1 hp
      have hc := hcs e1 hlt
      rw [hget] at hc
      have hd2 := hcal (e1 + 1) (by omega)
      cases hw2 : wholeS l (e1 + 1) with
      | none =>
        rw [hw2] at hd2
        exact lread_p_bad b o n c k e1 n1 (by omega) (by omega) (by omega) w hc hd (by simpa using hd2)
      | some pr2 =>
        obtain ⟨n2, e2⟩ := pr2
        rw [hw2] at hd2
        exact lread_p b o n c k e1 e2 n1 n2 (by omega) (by omega) (by omega) w hc hd (by simpa using hd2) (lscale_any n1 n2)
    · rw [readS_int hk hw hp]
      by_cases hlt : e1 < l.length
      · refine lread_int_in b o n c k e1 n1 l[e1] (by omega) (by omega) w (hcs e1 hlt) (beq_eq_false_iff_ne.2 ?_) hd
        intro e
        exact hp (List.getElem?_eq_some_iff.2 ⟨hlt, e⟩)
      · exact lread_int_end _ n c k e1 n1 (by omega) (by omega) w hd

set_option maxHeartbeats 400000 in
theorem rread_neg (v : Value) (at_ : Int) (h : at_ < 0) (w : World) :
    Calls Tryd.prog 20 #[v, .int .i64 at_] w fun e w' => ReadTells none at_ e ∧ w = w' := by
  go_enter Tryd.func20, Tryd.ntmps20
  go_wp2
  go_ret3
  exact ⟨rfl, rfl⟩

set_option maxHeartbeats 400000 in
theorem rread_far (a : Option Addr) (n c : Nat) (at_ : Int) (h : (n : Int) ≤ at_) (w : World) :
    Calls Tryd.prog 20 #[.slice a n c, .int .i64 at_] w fun e w' => ReadTells none at_ e ∧ w = w' := by
  go_enter Tryd.func20, Tryd.ntmps20
  go_wp2
  go_ret3
  exact ⟨rfl, rfl⟩

set_option maxHeartbeats 400000 in
theorem rread_bad (a : Option Addr) (n c k : Nat) (h : k < n) (w : World)
    (hd : ∀ w0, w = w0 → Calls Tryd.prog 65 #[.slice a n c, .int .i64 k] w0 fun e w' => PartTells none e ∧ w0 = w') :
    Calls Tryd.prog 20 #[.slice a n c, .int .i64 k] w fun e w' => ReadTells none k e ∧ w = w' := by
  have HD := Lib.hid (hd w rfl)
  clear hd
  go_enter Tryd.func20, Tryd.ntmps20
  go_wp2_with fail
  refine HD.out.mono ?_
  rintro x w' ⟨rfl, rfl⟩
  go_wp2
  go_ret3
  exact ⟨rfl, rfl⟩

set_option maxHeartbeats 400000 in
theorem rread_int_end (a : Option Addr) (n c k e : Nat) (v : Int) (h : k < n) (he : (e : Int) = n) (w : World)
    (hd : Calls Tryd.prog 65 #[.slice a n c, .int .i64 k] w fun x w' => PartTells (some (v, e)) x ∧ w = w') :
    Calls Tryd.prog 20 #[.slice a n c, .int .i64 k] w fun x w' => ReadTells (some (floatOfInt .f64 v, e)) k x ∧ w = w' := by
  obtain rfl : e = n := by omega
  have HD := Lib.hid hd
  clear hd he
  go_enter Tryd.func20, Tryd.ntmps20
  go_wp2_with fail
  refine HD.out.mono ?_
  rintro x w' ⟨rfl, rfl⟩
  go_wp2
  go_ret3
  exact ⟨rfl, rfl⟩

set_option maxHeartbeats 400000 in
theorem rread_int_in (b o n c k e : Nat) (v x0 : Int) (h : k < n) (he : e < n) (w : World) (hc : w.cell? ⟨b, o + e, none⟩ = some (.int .i32 x0)) (hx : (x0 == 112) = false)
    (hd : Calls Tryd.prog 65 #[.slice (some ⟨b, o, none⟩) n c, .int .i64 k] w fun x w' => PartTells (some (v, e)) x ∧ w = w') :
    Calls Tryd.prog 20 #[.slice (some ⟨b, o, none⟩) n c, .int .i64 k] w fun x w' => ReadTells (some (floatOfInt .f64 v, e)) k x ∧ w = w' := by
  have HD := Lib.hid hd
  have hxn : (x0 != 112) = true := by rw [bne, hx]; rfl
  have hen : ((e : Int) == (n : Int)) = false := beq_eq_false_iff_ne.2 (by omega)
  clear hd
  go_enter Tryd.func20, Tryd.ntmps20
  go_wp2_with fail
  refine HD.out.mono ?_
  rintro x w' ⟨rfl, rfl⟩
  go_wp2
  go_ret3
  exact ⟨rfl, rfl⟩

set_option maxHeartbeats 400000 in
theorem rread_p_bad (b o n c k e : Nat) (v : Int) (h : k < n) (he : e < n) (hm : n ≤ 4611686018427387904) (w : World) (hc : w.cell? ⟨b, o + e, none⟩ = some (.int .i32 112))
    (hd : Calls Tryd.prog 65 #[.slice (some ⟨b, o, none⟩) n c, .int .i64 k] w fun x w' => PartTells (some (v, e)) x ∧ w = w')
    (hd2 : Calls Tryd.prog 65 #[.slice (some ⟨b, o, none⟩) n c, .int .i64 ((e : Int) + 1)] w fun x w' => PartTells none x ∧ w = w') :
    Calls Tryd.prog 20 #[.slice (some ⟨b, o, none⟩) n c, .int .i64 k] w fun x w' => ReadTells none k x ∧ w = w' := by
  have HD := Lib.hid hd
  have HD2 := Lib.hid hd2
  have hen : ((e : Int) == (n : Int)) = false := beq_eq_false_iff_ne.2 (by omega)
  clear hd hd2
  go_enter Tryd.func20, Tryd.ntmps20
  go_wp2_with fail
  refine HD.out.mono ?_
  rintro x w' ⟨rfl, rfl⟩
  go_wp2_with fail
  refine HD2.out.mono ?_
  rintro x w' ⟨rfl, rfl⟩
  go_wp2
  go_ret3
  exact ⟨rfl, rfl⟩

set_option maxHeartbeats 400000 in
theorem rread_p (b o n c k e e2 : Nat) (v p : Int) (h : k < n) (he : e < n) (hm : n ≤ 4611686018427387904) (w : World) (hc : w.cell? ⟨b, o + e, none⟩ = some (.int .i32 112))
    (hd : Calls Tryd.prog 65 #[.slice (some ⟨b, o, none⟩) n c, .int .i64 k] w fun x w' => PartTells (some (v, e)) x ∧ w = w')
    (hd2 : Calls Tryd.prog 65 #[.slice (some ⟨b, o, none⟩) n c, .int .i64 ((e : Int) + 1)] w fun x w' => PartTells (some (p, e2)) x ∧ w = w')
    (hs : ∀ w, Calls Tryd.prog 22 #[.int .i64 v, .int .i64 p] w fun x w' => x = .returned (scaleV v p) ∧ w = w') :
    Calls Tryd.prog 20 #[.slice (some ⟨b, o, none⟩) n c, .int .i64 k] w fun x w' => ReadTells ((scaleS v p).map fun b => (b, e2)) k x ∧ w = w' := by
  have HD := Lib.hid hd
  have HD2 := Lib.hid hd2
  have hen : ((e : Int) == (n : Int)) = false := beq_eq_false_iff_ne.2 (by omega)
  cases hsc : scaleS v p with
  | none =>
    rw [scaleV_no hsc] at hs
    have HS := Lib.hid hs
    clear hd hd2 hs hsc
    go_enter Tryd.func20, Tryd.ntmps20
    go_wp2_with fail
    refine HD.out.mono ?_
    rintro x w' ⟨rfl, rfl⟩
    go_wp2_with fail
    refine HD2.out.mono ?_
    rintro x w' ⟨rfl, rfl⟩
    go_wp2_with fail
    refine (HS.out _).mono ?_
    rintro x w' ⟨rfl, rfl⟩
    go_wp2
    go_ret3
    exact ⟨rfl, rfl⟩
  | some bs =>
    rw [scaleV_yes hsc] at hs
    have HS := Lib.hid hs
    clear hd hd2 hs hsc
    go_enter Tryd.func20, Tryd.ntmps20
    go_wp2_with fail
    refine HD.out.mono ?_
    rintro x w' ⟨rfl, rfl⟩
    go_wp2_with fail
    refine HD2.out.mono ?_
    rintro x w' ⟨rfl, rfl⟩
    go_wp2_with fail
    refine (HS.out _).mono ?_
    rintro x w' ⟨rfl, rfl⟩
    go_wp2
    go_ret3
    exact ⟨rfl, rfl⟩

theorem rread_any {w : World} {v : Value} {l : List Int} (h : Runes w v l) (hm : l.length ≤ 4611686018427387903) (at_ : Int) :
    Calls Tryd.prog 20 #[v, .int .i64 at_] w fun e w' => ReadTells (readS l at_) at_ e ∧ w = w' := by
  by_cases h0 : at_ < 0
  · rw [readS_out (by omega)]; exact rread_neg v at_ h0 w
  by_cases h1 : (l.length : Int) ≤ at_
  · rw [readS_out (by omega)]
    rcases h with ⟨a, c, rfl, rfl⟩ | ⟨b, o, n, c, rfl, hn, hcs⟩
    · exact rread_far a 0 c at_ (by simpa using h1) w
    · exact rread_far _ n c at_ (by omega) w
  obtain ⟨k, rfl⟩ := Int.eq_ofNat_of_zero_le (show 0 ≤ at_ by omega)
  have hk : k < l.length := by omega
  have hcal := @part_any w v l h (by omega)
  rcases h with ⟨a, c, rfl, rfl⟩ | ⟨b, o, n, c, rfl, hn, hcs⟩
  · simp at hk
  have hd := hcal k (by omega)
  cases hw : wholeS l k with
  | none =>
    rw [hw] at hd
    rw [readS_none hk hw]
    exact rread_bad _ n c k (by omega) w (fun w0 e => by subst e; exact hd)
  | some pr =>
    obtain ⟨n1, e1⟩ := pr
    rw [hw] at hd
    have hb := wholeS_bounds hw (by omega)
    by_cases hp : l[e1]? = some 112
    · rw [readS_p hk hw hp]
      obtain ⟨hlt, hget⟩ := List.getElem?_eq_some_iff.1 hp
      have hc := hcs e1 hlt
      rw [hget] at hc
      have hd2 := hcal (e1 + 1) (by omega)
      cases hw2 : wholeS l (e1 + 1) with
      | none =>
        rw [hw2] at hd2
        exact rread_p_bad b o n c k e1 n1 (by omega) (by omega) (by omega) w hc hd (by simpa using hd2)
      | some pr2 =>
        obtain ⟨n2, e2⟩ := pr2
        rw [hw2] at hd2
        exact rread_p b o n c k e1 e2 n1 n2 (by omega) (by omega) (by omega) w hc hd (by simpa using hd2) (rscale_any n1 n2)
    · rw [readS_int hk hw hp]
      by_cases hlt : e1 < l.length
      · refine rread_int_in b o n c k e1 n1 l[e1] (by omega) (by omega) w (hcs e1 hlt) (beq_eq_false_iff_ne.2 ?_) hd
        intro e
        exact hp (List.getElem?_eq_some_iff.2 ⟨hlt, e⟩)
      · exact rread_int_end _ n c k e1 n1 (by omega) (by omega) w hd
end Go.Proofs.YtnhnaallalgefaaDoor
