/- The walks of the reference's whole and Write and of lit.Write. Conditions: as each theorem says. -/
import Derived.Test.YtopdkllbemgmlaaDoorLitN
import Derived.Test.YtopdkllbemgmlaaDoorLitI
namespace Go.Proofs.YtopdkllbemgmlaaDoor
open Go Go.RowKit Go.Proofs Fl

theorem encode_high : Utf8.encode 175 = ⟨#[194, 175]⟩ := by decide +kernel
theorem encode_p : Utf8.encode 112 = ⟨#[112]⟩ := by decide +kernel

theorem decR_len16 (m : Nat) (h : m ≤ 9007199254740992) : (decR m).length ≤ 16 := by
  rcases decR_len 16 m (by omega) with h | h
  · exact h
  · omega

theorem writeS_len (n : Int) (h1 : -9007199254740992 ≤ n) (h2 : n ≤ 9007199254740992) : (writeS n).length ≤ 17 := by
  unfold writeS
  have := decR_len16 n.natAbs (by omega)
  split <;> simp <;> omega
theorem writeS_ne (n : Int) : writeS n ≠ [] := by
  unfold writeS
  intro h
  have := (List.append_eq_nil_iff.1 h).2
  exact decR_ne _ (List.reverse_eq_nil_iff.1 this)

theorem size_writeS (n : Int) (h1 : -9007199254740992 ≤ n) (h2 : n ≤ 9007199254740992) : (runesBytes (writeS n)).size ≤ 68 := by
  have := runesBytes_size_le (writeS n)
  have := writeS_len n h1 h2
  omega

set_option maxHeartbeats 400000 in
theorem rwhole_text (n : Int) (h1 : -9007199254740992 ≤ n) (h2 : n ≤ 9007199254740992) (w : World) :
    Calls Tryd.prog 27 #[.int .i64 n] w fun e w' => Texts w (runesBytes (writeS n)) e w' := by
  by_cases h : n < 0
  · obtain ⟨m, hm⟩ := Int.eq_ofNat_of_zero_le (show 0 ≤ -n by omega)
    obtain rfl : n = -(m : Int) := by omega
    have hd := rdigits_any m (by omega) w
    have hsz := runesBytes_size_le (decR m).reverse
    have hl := decR_len16 m (by omega)
    have HE : Hid (runesBytes (writeS (-(m : Int))) = ⟨#[194, 175]⟩ ++ runesBytes (decR m).reverse) := by
      show _ = _
      unfold writeS; rw [if_pos h, show (-(m : Int)).natAbs = m by omega, runesBytes_append, runesBytes_cons, runesBytes_nil, encode_high]; simp
    rw [List.length_reverse] at hsz
    generalize runesBytes (decR m).reverse = S at *
    have hs : S.size ≤ 64 := by omega
    clear hsz
    have HD := Lib.hid hd
    clear hd
    go_enter Tryd.func27, Tryd.ntmps27
    go_wp2_with fail
    refine (HD.out).mono ?_
    rintro e w' ⟨rfl, hb⟩
    go_wp2
    go_ret
    exact ⟨by rw [HE.out]; rfl, hb⟩
  · obtain ⟨m, rfl⟩ := Int.eq_ofNat_of_zero_le (show 0 ≤ n by omega)
    have HD := Lib.hid (rdigits_any m (by omega) w)
    have HE : Hid (runesBytes (writeS (m : Int)) = runesBytes (decR m).reverse) := by
      show _ = _
      unfold writeS; rw [if_neg h, Int.natAbs_natCast, List.nil_append]
    go_enter Tryd.func27, Tryd.ntmps27
    go_wp2_with fail
    refine (HD.out).mono ?_
    rintro e w' ⟨rfl, hb⟩
    go_wp2
    go_ret
    exact ⟨by rw [HE.out]; rfl, hb⟩

/-- how a number is written -/
def WrIs (s : Bool) (Z : Nat) (l : List Int) : Prop :=
  (∃ m, m ≤ 9007199254740992 ∧ Z = m * 2^K ∧ l = writeS (sg s m)) ∨
  (¬ IsWhole Z ∧ ∃ q j : Nat, q % 2 = 1 ∧ Z = q * 2^j ∧ l = writeS (sg s q) ++ 112 :: writeS ((j : Int) - 1074))

theorem odd_unique {q q' j j' : Nat} (h : q * 2^j = q' * 2^j') (hq : q % 2 = 1) (hq' : q' % 2 = 1) : q = q' ∧ j = j' := by
  have key : ∀ (q q' j j' : Nat), q % 2 = 1 → j < j' → q * 2^j = q' * 2^j' → False := by
    intro q q' j j' hq hlt h
    obtain ⟨d, rfl⟩ : ∃ d, j' = d + 1 + j := ⟨j' - j - 1, by omega⟩
    rw [Nat.pow_add, ← Nat.mul_assoc] at h
    have h2 := Nat.eq_of_mul_eq_mul_right (Nat.two_pow_pos j) h
    rw [Nat.pow_succ, ← Nat.mul_assoc] at h2
    omega
  rcases Nat.lt_trichotomy j j' with hlt | rfl | hlt
  · exact (key q q' j j' hq hlt h).elim
  · exact ⟨Nat.eq_of_mul_eq_mul_right (Nat.two_pow_pos j) h, rfl⟩
  · exact (key q' q j' j hq' hlt h.symm).elim

theorem odd_bounds {Z q j : Nat} (hz : Rep Z) (hq : q % 2 = 1) (h : Z = q * 2^j) : q < 9007199254740992 ∧ j ≤ 2097 := by
  obtain ⟨hl, m, k, hm, e⟩ := hz
  have hm0 : m ≠ 0 := by
    rintro rfl
    rw [Nat.zero_mul, h] at e
    have := Nat.two_pow_pos j
    rcases Nat.mul_eq_zero.1 e with h1 | h1 <;> omega
  obtain ⟨z, r, hr⟩ := odd_parts m hm0
  have hp := Nat.two_pow_pos z
  have e2 : q * 2^j = (2 * r + 1) * 2^(z + k) := by rw [← h, e, hr, Nat.pow_add, Nat.mul_comm (2^z), Nat.mul_assoc]
  obtain ⟨rfl, rfl⟩ := odd_unique e2 hq (by omega)
  have h1 : 2 * r + 1 ≤ 2^z * (2 * r + 1) := Nat.le_mul_of_pos_left _ hp
  refine ⟨by omega, ?_⟩
  have h0 : 2 * r + 1 ≠ 0 := by omega
  rw [h, log2_mul_pow _ h0] at hl
  omega

theorem rparts_exact (s : Bool) {q j : Nat} (hq : q % 2 = 1) (hz : Rep (q * 2^j)) (w : World) :
    Calls Tryd.prog 18 #[.float .f64 (W s (q * 2^j))] w fun e w' => e = .returned (.tuple #[.int .i64 (sg s q), .int .i64 ((j : Int) - 1074)]) ∧ w = w' := by
  have h0 : q * 2^j ≠ 0 := by have := Nat.two_pow_pos j; intro h; rcases Nat.mul_eq_zero.1 h with h1 | h1 <;> omega
  refine (rparts_any s hz h0 w).mono ?_
  rintro e w' ⟨⟨q', j', rfl, h1, h2⟩, rfl⟩
  obtain ⟨rfl, rfl⟩ := odd_unique h2 hq h1
  exact ⟨rfl, rfl⟩
theorem lparts_exact (s : Bool) {q j : Nat} (hq : q % 2 = 1) (hz : Rep (q * 2^j)) (w : World) (ht : TzTab w) :
    Calls Tryd.prog 17 #[.float .f64 (W s (q * 2^j))] w fun e w' => e = .returned (.tuple #[.int .i64 (sg s q), .int .i64 ((j : Int) - 1074)]) ∧ w = w' := by
  have h0 : q * 2^j ≠ 0 := by have := Nat.two_pow_pos j; intro h; rcases Nat.mul_eq_zero.1 h with h1 | h1 <;> omega
  refine (lparts_any s hz h0 w ht).mono ?_
  rintro e w' ⟨⟨q', j', rfl, h1, h2⟩, rfl⟩
  obtain ⟨rfl, rfl⟩ := odd_unique h2 hq h1
  exact ⟨rfl, rfl⟩

theorem conv_whole (s : Bool) (m : Nat) (hm : m ≤ 9007199254740992) (w : World) : (convert 22 2 (.float .f64 (W s (m * 2^K)))).run Tryd.prog w = .ok (.int .i64 (sg s m)) w := by
  have := toInt64_W s (rep_unit hm) (by rw [Nat.mul_div_cancel _ K_pos]; omega)
  rw [Nat.mul_div_cancel _ K_pos] at this
  exact run_convert_float_int (P := Tryd.prog) w 22 2 .f64 .i64 (W s (m * 2^K)) _ (by kernel_rfl) Tryd.underlying2 this

theorem sg_bd (s : Bool) {m : Nat} (hm : m ≤ 9007199254740992) : -9007199254740992 ≤ sg s m ∧ sg s m ≤ 9007199254740992 := by
  unfold sg; split <;> omega

set_option maxHeartbeats 400000 in
theorem rWrite_whole (b : Nat) (n : Int) (h1 : -9007199254740992 ≤ n) (h2 : n ≤ 9007199254740992)
    (hw : ∀ w, Calls Tryd.prog 26 #[.float .f64 b] w fun e w' => e = .returned (.bool true) ∧ w = w')
    (hc : ∀ w, (convert 22 2 (.float .f64 b)).run Tryd.prog w = .ok (.int .i64 n) w) (w : World) :
    Calls Tryd.prog 12 #[.float .f64 b] w fun e w' => Texts w (runesBytes (writeS n)) e w' := by
  have HW := Lib.hid hw
  clear hw
  generalize hS : runesBytes (writeS n) = S
  have HD : Hid (∀ w, Calls Tryd.prog 27 #[.int .i64 n] w fun e w' => Texts w S e w') := by
    rw [← hS]; exact fun w => rwhole_text n h1 h2 w
  clear hS
  go_enter Tryd.func12, Tryd.ntmps12
  go_wp2_with fail
  refine (HW.out _).mono ?_
  rintro e w' ⟨rfl, rfl⟩
  go_wp2_with fail
  refine (HD.out _).mono ?_
  rintro e w' ⟨rfl, hb⟩
  go_wp2
  go_ret
  exact ⟨rfl, hb⟩

set_option maxHeartbeats 400000 in
theorem rWrite_parts (b : Nat) (n p : Int) (h1 : -9007199254740992 ≤ n) (h2 : n ≤ 9007199254740992) (h3 : -9007199254740992 ≤ p) (h4 : p ≤ 9007199254740992)
    (hw : ∀ w, Calls Tryd.prog 26 #[.float .f64 b] w fun e w' => e = .returned (.bool false) ∧ w = w')
    (hp : ∀ w, Calls Tryd.prog 18 #[.float .f64 b] w fun e w' => e = .returned (.tuple #[.int .i64 n, .int .i64 p]) ∧ w = w') (w : World) :
    Calls Tryd.prog 12 #[.float .f64 b] w fun e w' => Texts w (runesBytes (writeS n ++ 112 :: writeS p)) e w' := by
  have HW := Lib.hid hw
  have HP := Lib.hid hp
  clear hw hp
  have HE : Hid (runesBytes (writeS n ++ 112 :: writeS p) = runesBytes (writeS n) ++ ⟨#[112]⟩ ++ runesBytes (writeS p)) := by
    show _ = _
    rw [runesBytes_append, runesBytes_cons, encode_p, ByteArray.append_assoc]
  have z1 := size_writeS n h1 h2
  have z2 := size_writeS p h3 h4
  have HD1 := Lib.hid (rwhole_text n h1 h2)
  have HD2 := Lib.hid (rwhole_text p h3 h4)
  generalize runesBytes (writeS n) = S at *
  generalize runesBytes (writeS p) = T at *
  go_enter Tryd.func12, Tryd.ntmps12
  go_wp2_with fail
  refine (HW.out _).mono ?_
  rintro e w' ⟨rfl, rfl⟩
  go_wp2_with fail
  refine (HP.out _).mono ?_
  rintro e w' ⟨rfl, rfl⟩
  go_wp2_with fail
  refine (HD1.out _).mono ?_
  rintro e w1 ⟨rfl, hb1⟩
  go_wp2_with fail
  refine (HD2.out _).mono ?_
  rintro e w2 ⟨rfl, hb2⟩
  go_wp2
  go_ret
  exact ⟨by rw [HE.out]; rfl, hb1.trans (hb2.mono hb1.size)⟩

theorem rWrite_any (s : Bool) {Z : Nat} (hz : Rep Z) {l : List Int} (hl : WrIs s Z l) (w : World) :
    Calls Tryd.prog 12 #[.float .f64 (W s Z)] w fun e w' => Texts w (runesBytes l) e w' := by
  rcases hl with ⟨m, hm, hZ, hl⟩ | ⟨hn, q, j, hq, hZ, hl⟩ <;> rw [hl, hZ]
  · obtain ⟨b1, b2⟩ := sg_bd s hm
    exact rWrite_whole (W s (m * 2^K)) (sg s m) b1 b2 (rwhole_yes s m hm) (conv_whole s m hm) w
  · rw [hZ] at hz hn
    obtain ⟨b0, b3⟩ := odd_bounds hz hq rfl
    obtain ⟨b1, b2⟩ := sg_bd s (show q ≤ 9007199254740992 by omega)
    exact rWrite_parts _ _ _ b1 b2 (by omega) (by omega) (rwhole_no s hz hn) (rparts_exact s hq hz) w

set_option maxHeartbeats 400000 in
theorem lWrite_whole (b : Nat) (n : Int) (h1 : -9007199254740992 ≤ n) (h2 : n ≤ 9007199254740992)
    (hw : ∀ w, Calls Tryd.prog 23 #[.float .f64 b] w fun e w' => e = .returned (.tuple #[.int .i64 n, .bool true]) ∧ w = w') (w : World) :
    Calls Tryd.prog 10 #[.float .f64 b] w fun e w' => Wrote w (writeS n) e w' := by
  have HW := Lib.hid hw
  clear hw
  have HD := Lib.hid (write_any n h1 h2)
  generalize writeS n = l at *
  go_enter Tryd.func10, Tryd.ntmps10
  go_wp2_with fail
  refine (HW.out _).mono ?_
  rintro e w' ⟨rfl, rfl⟩
  go_wp2_with fail
  refine (HD.out _).mono ?_
  rintro e w' ⟨v, rfl, ho, hb⟩
  have HO := Lib.hid ho
  clear ho
  go_wp2
  go_ret
  exact ⟨v, rfl, HO.out, hb⟩

set_option maxHeartbeats 400000 in
theorem lWrite_parts (b : Nat) (n p : Int) (h1 : -9007199254740992 ≤ n) (h2 : n ≤ 9007199254740992) (h3 : -9007199254740992 ≤ p) (h4 : p ≤ 9007199254740992)
    (hw : ∀ w, Calls Tryd.prog 23 #[.float .f64 b] w fun e w' => (∃ x, e = .returned (.tuple #[.int .i64 x, .bool false])) ∧ w = w') (w : World)
    (hp : Calls Tryd.prog 17 #[.float .f64 b] w fun e w' => e = .returned (.tuple #[.int .i64 n, .int .i64 p]) ∧ w = w') :
    Calls Tryd.prog 10 #[.float .f64 b] w fun e w' => Wrote w (writeS n ++ 112 :: writeS p) e w' := by
  have HW := Lib.hid hw
  have HP := Lib.hid hp
  clear hw hp
  have z1 := writeS_len n h1 h2
  have z2 := writeS_len p h3 h4
  have HD1 := Lib.hid (write_any n h1 h2)
  have HD2 := Lib.hid (write_any p h3 h4)
  have HN := Lib.hid (writeS_ne p)
  generalize writeS n = l1 at *
  generalize writeS p = l2 at *
  have HX : Hid (∀ e w', Wrote w (l1 ++ 112 :: l2) e w' = ∃ v, e = .returned v ∧ OwnR w' w.heap.size v ((l1 ++ [112]) ++ l2) ∧ Below w.heap.size w w') := by
    show ∀ e w', _ = _
    intro e w'
    rw [List.append_assoc]; rfl
  go_enter Tryd.func10, Tryd.ntmps10
  go_wp2_with fail
  refine (HW.out _).mono ?_
  rintro e w' ⟨⟨x0, rfl⟩, rfl⟩
  go_wp2_with fail
  refine (HP.out).mono ?_
  rintro e w' ⟨rfl, rfl⟩
  go_wp2_with fail
  refine (HD1.out _).mono ?_
  rintro e w1 ⟨v1, rfl, ho1, hb1⟩
  have HO1 := Lib.hid ho1
  have hB1 := hb1.size
  have hlen1 : l1.length ≤ 1099511627776 := by omega
  clear ho1
  go_wp2_with (at_builtin; refine wpList_app1 rfl (.tmp 21) (.tmp 22) rfl w.heap.size v1 l1 rfl HO1.out 112 rfl hlen1 hB1 ?_; intro v2 w2 hv2 hbk hk2 hs2; have HV2 := Lib.hid hv2; have HB2 := Lib.hid (hbk w hb1); clear hbk hk2 hv2)
  refine (HD2.out _).mono ?_
  rintro e w3 ⟨v3, rfl, ho3, hb3⟩
  obtain ⟨g, c, hv3, hcl⟩ := ho3.form HN.out
  rw [hv3]
  have hv2' := HV2.out.below hb3
  have HV3 := Lib.hid hv2'
  have hcl' : ∀ i (hi : i < l2.length), w3.cell? ⟨g, 0 + i, none⟩ = some (.int .i32 l2[i]) := fun i hi => by rw [Nat.zero_add]; exact hcl w3 _ ho3 i hi
  have HCL := Lib.hid hcl'
  have hB3 : w.heap.size ≤ w3.heap.size := by have := HB2.out.size; have := hb3.size; omega
  have HB3 := Lib.hid (HB2.out.trans (hb3.mono HB2.out.size))
  have hlen3 : (l1 ++ [112]).length + l2.length ≤ 1099511627776 := by simp; omega
  clear hv3 hcl hcl' hv2' ho3 hb3
  go_wp2_with (at_builtin; refine wpList_appL rfl (.tmp 23) (.tmp 25) rfl w.heap.size v2 (l1 ++ [112]) rfl HV3.out g 0 c l2 rfl HCL.out hlen3 hB3 ?_; intro v4 w4 hv4 hbk hk4 hs4; have HV4 := Lib.hid hv4; have HB4 := Lib.hid (hbk w HB3.out); clear hbk hk4 hv4)
  go_ret
  rw [HX.out]
  exact ⟨v4, rfl, HV4.out, HB4.out⟩

theorem lWrite_any (s : Bool) {Z : Nat} (hz : Rep Z) {l : List Int} (hl : WrIs s Z l) (w : World) (ht : TzTab w) :
    Calls Tryd.prog 10 #[.float .f64 (W s Z)] w fun e w' => Wrote w l e w' := by
  rcases hl with ⟨m, hm, hZ, hl⟩ | ⟨hn, q, j, hq, hZ, hl⟩ <;> rw [hl, hZ]
  · obtain ⟨b1, b2⟩ := sg_bd s hm
    exact lWrite_whole _ _ b1 b2 (nwhole_yes s m hm) w
  · rw [hZ] at hz hn
    obtain ⟨b0, b3⟩ := odd_bounds hz hq rfl
    obtain ⟨b1, b2⟩ := sg_bd s (show q ≤ 9007199254740992 by omega)
    exact lWrite_parts _ _ _ b1 b2 (by omega) (by omega) (nwhole_no s hz hn) w (lparts_exact s hq hz w ht)
end Go.Proofs.YtopdkllbemgmlaaDoor
