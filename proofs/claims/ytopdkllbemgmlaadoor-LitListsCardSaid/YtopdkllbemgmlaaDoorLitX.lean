/- The walks of lit.Numbers and of the reference's Numbers. Conditions: at most 60 numbers. -/
import Derived.Test.YtopdkllbemgmlaaDoorLitV
namespace Go.Proofs.YtopdkllbemgmlaaDoor
open Go Go.RowKit Go.Proofs Fl

/-- numbers' texts, a blank between: the first k of them -/
def joinT (t : Nat → List Int) : Nat → List Int
  | 0 => []
  | k + 1 => joinT t k ++ (if k = 0 then [] else [32]) ++ t k

theorem joinT_len {t : Nat → List Int} {n : Nat} (h : ∀ i, i < n → (t i).length ≤ 60) : ∀ k, k ≤ n → (joinT t k).length ≤ 61 * k := by
  intro k
  induction k with
  | zero => intro _; simp [joinT]
  | succ k ih =>
    intro hk
    have h1 := ih (by omega)
    have h2 := h k (by omega)
    unfold joinT
    split <;> simp <;> omega

/-- what both want of the numbers: each is one, and its text -/
structure NumsOk (p : Nat → Bool × Nat) (t : Nat → List Int) (n : Nat) : Prop where
  rep : ∀ i, i < n → Rep (p i).2
  tidy : ∀ i, i < n → (p i).2 = 0 → (p i).1 = false
  wr : ∀ i, i < n → WrIs (p i).1 (p i).2 (t i)

theorem NumsOk.len {p : Nat → Bool × Nat} {t : Nat → List Int} {n : Nat} (h : NumsOk p t n) (i : Nat) (hi : i < n) : 0 < (t i).length ∧ (t i).length ≤ 60 := wr_len (h.rep i hi) (h.wr i hi)

set_option maxRecDepth 100000 in
set_option maxHeartbeats 1000000 in
theorem numbers_walk (b o c n : Nat) (p : Nat → Bool × Nat) (t : Nat → List Int) (hp : NumsOk p t n) (hn60 : n ≤ 60) (w : World) (ht : TzTab w)
    (hc : ∀ i, i < n → w.cell? ⟨b, o + i, none⟩ = some (fl (p i))) :
    Calls Tryd.prog 20 #[.slice (some ⟨b, o, none⟩) n c] w fun e w' => Wrote w (joinT t n) e w' := by
  have hcw : ∀ wr, Below w.heap.size w wr → ∀ i, i < n → wr.cell? ⟨b, o + i, none⟩ = some (fl (p i)) := by
    intro wr hb i h
    rw [hb.cell (cell_lt (hc i h))]; exact hc i h
  have HC := Lib.hid hcw
  have HP := Lib.hid hp
  have HTT : Hid (∀ wr, Below w.heap.size w wr → TzTab wr) := fun wr hb => ht.below hb
  have HLEN := Lib.hid (joinT_len (t := t) (n := n) (fun i hi => (hp.len i hi).2))
  obtain ⟨B, hB⟩ : ∃ B, B = w.heap.size := ⟨_, rfl⟩
  have HB := Lib.hid hB
  have HS : Hid (∀ e w', Wrote w (joinT t n) e w' = ∃ v, e = .returned v ∧ OwnR w' B v (joinT t n) ∧ Below B w w') := by rw [hB]; exact fun _ _ => rfl
  clear hc hcw hp ht hB
  go_enter Tryd.func20, Tryd.ntmps20
  go_wp2
  go_loopw [3, 8] (fun v i wr => ∃ k : Nat, k ≤ n ∧ i = .int .i64 k ∧ OwnR wr B v (joinT t k) ∧ Below B w wr) (fun _ i _ => n - (intOf i).toNat)
  case atStart => exact ⟨0, Nat.zero_le _, rfl, OwnR.nil w B, Below.refl B w⟩
  case round =>
    obtain ⟨k, hk, rfl, hown, hbl⟩ := hrel
    have HOWN := Lib.hid hown
    have hBw : B ≤ wr.heap.size := by rw [HB.out]; exact hbl.size
    clear hown
    by_cases hlt : k < n
    · have hcell := HC.out wr (by rw [← HB.out]; exact hbl) k hlt
      have hl1 : (joinT t k).length ≤ 1099511627776 := by have := HLEN.out k hk; omega
      have HW := Lib.hid (fun w ht => lWrite_any (p k).1 (HP.out.rep k hlt) (HP.out.wr k hlt) w ht)
      have hlen := HP.out.len k hlt
      have HNE : Hid (t k ≠ []) := by intro e; rw [e] at hlen; simp at hlen
      have HT1 := Lib.hid (HTT.out wr (by rw [← HB.out]; exact hbl))
      unfold fl at hcell
      generalize W (p k).1 (p k).2 = y at *
      by_cases h0 : k = 0
      · have HJ : Hid (joinT t (k + 1) = joinT t k ++ t k) := by show _ = _; rw [joinT, if_pos h0]; simp
        have hgt : ¬ 0 < (k : Int) := by omega
        clear h0
        go_wp2_with fail
        refine (HW.out _ HT1.out).mono ?_
        rintro e w3 ⟨v3, rfl, ho3, hb3⟩
        obtain ⟨g, c3, hv3, hcl⟩ := ho3.form HNE.out
        rw [hv3]
        have hcl' : ∀ i (hi : i < (t k).length), w3.cell? ⟨g, 0 + i, none⟩ = some (.int .i32 (t k)[i]) := fun i hi => by rw [Nat.zero_add]; exact hcl w3 _ ho3 i hi
        have HCL := Lib.hid hcl'
        have HO3 := Lib.hid (HOWN.out.below hb3)
        have hB3 : B ≤ w3.heap.size := by have := hb3.size; omega
        have HB3 := Lib.hid (hbl.trans (hb3.mono hBw))
        have hl3 : (joinT t k).length + (t k).length ≤ 1099511627776 := by have := HLEN.out k hk; omega
        clear hv3 hcl hcl' ho3 hb3
        go_wp2_with (at_builtin; refine wpList_appL rfl (.tmp 18) (.tmp 20) rfl B _ (joinT t k) rfl HO3.out g 0 c3 (t k) rfl HCL.out hl3 hB3 ?_; intro v4 w4 hv4 hbk hk4 hs4; rw [← HJ.out] at hv4; have HV4 := Lib.hid hv4; have HB4 := Lib.hid (hbk w HB3.out); clear hbk hk4 hv4)
        go_roundw
        case rel => exact ⟨k + 1, by omega, by go_num, HV4.out, HB4.out⟩
        case measure => simp [intOf]; omega
      · have HJ : Hid (joinT t (k + 1) = (joinT t k ++ [32]) ++ t k) := by show _ = _; rw [joinT, if_neg h0]
        have hgt : 0 < (k : Int) := by omega
        clear h0
        go_wp2_with (at_builtin; refine wpList_app1 rfl (.tmp 15) (.tmp 16) rfl B _ (joinT t k) rfl HOWN.out 32 rfl hl1 hBw ?_; intro v2 w2 hv2 hbk hk2 hs2; have HV2 := Lib.hid hv2; have HB2 := Lib.hid (hbk w hbl); clear hbk hk2 hv2)
        refine (HW.out _ (HTT.out w2 (by rw [← HB.out]; exact HB2.out))).mono ?_
        rintro e w3 ⟨v3, rfl, ho3, hb3⟩
        obtain ⟨g, c3, hv3, hcl⟩ := ho3.form HNE.out
        rw [hv3]
        have hcl' : ∀ i (hi : i < (t k).length), w3.cell? ⟨g, 0 + i, none⟩ = some (.int .i32 (t k)[i]) := fun i hi => by rw [Nat.zero_add]; exact hcl w3 _ ho3 i hi
        have HCL := Lib.hid hcl'
        have HO3 := Lib.hid (HV2.out.below hb3)
        have hB2 : B ≤ w2.heap.size := by rw [HB.out]; exact HB2.out.size
        have hB3 : B ≤ w3.heap.size := by have := hb3.size; omega
        have HB3 := Lib.hid (HB2.out.trans (hb3.mono hB2))
        have hl3 : (joinT t k ++ [32]).length + (t k).length ≤ 1099511627776 := by have := HLEN.out k hk; simp; omega
        clear hv3 hcl hcl' ho3 hb3
        go_wp2_with (at_builtin; refine wpList_appL rfl (.tmp 18) (.tmp 20) rfl B _ (joinT t k ++ [32]) rfl HO3.out g 0 c3 (t k) rfl HCL.out hl3 hB3 ?_; intro v4 w4 hv4 hbk hk4 hs4; rw [← HJ.out] at hv4; have HV4 := Lib.hid hv4; have HB4 := Lib.hid (hbk w HB3.out); clear hbk hk4 hv4)
        go_roundw
        case rel => exact ⟨k + 1, by omega, by go_num, HV4.out, HB4.out⟩
        case measure => simp [intOf]; omega
    · obtain rfl : k = n := by omega
      go_wp2
      go_ret
      rw [HS.out]
      exact ⟨_, rfl, HOWN.out, hbl⟩

theorem encode_blank : Utf8.encode 32 = ⟨#[32]⟩ := by decide +kernel

set_option maxRecDepth 100000 in
set_option maxHeartbeats 1000000 in
theorem rnumbers_walk (b o c n : Nat) (p : Nat → Bool × Nat) (t : Nat → List Int) (hp : NumsOk p t n) (hn60 : n ≤ 60) (w : World)
    (hc : ∀ i, i < n → w.cell? ⟨b, o + i, none⟩ = some (fl (p i))) :
    Calls Tryd.prog 21 #[.slice (some ⟨b, o, none⟩) n c] w fun e w' => Texts w (runesBytes (joinT t n)) e w' := by
  have hcw : ∀ wr, Below w.heap.size w wr → ∀ i, i < n → wr.cell? ⟨b, o + i, none⟩ = some (fl (p i)) := by
    intro wr hb i h
    rw [hb.cell (cell_lt (hc i h))]; exact hc i h
  have HC := Lib.hid hcw
  have HP := Lib.hid hp
  have HLEN := Lib.hid (joinT_len (t := t) (n := n) (fun i hi => (hp.len i hi).2))
  obtain ⟨B, hB⟩ : ∃ B, B = w.heap.size := ⟨_, rfl⟩
  have HB := Lib.hid hB
  have HS : Hid (∀ e w', Texts w (runesBytes (joinT t n)) e w' = (e = .returned (.string (runesBytes (joinT t n))) ∧ Below B w w')) := by rw [hB]; exact fun _ _ => rfl
  clear hc hcw hp hB
  go_enter Tryd.func21, Tryd.ntmps21
  go_wp2
  go_loopw [3, 4] (fun s i wr => ∃ (k : Nat) (S : ByteArray), k ≤ n ∧ i = .int .i64 k ∧ s = .string S ∧ Hid (S = runesBytes (joinT t k)) ∧ S.size ≤ 100000 ∧ Below B w wr) (fun _ i _ => n - (intOf i).toNat)
  case atStart => exact ⟨0, _, Nat.zero_le _, rfl, rfl, rfl, by decide, Below.refl B w⟩
  case round =>
    obtain ⟨k, S, hk, rfl, rfl, hS, hsz, hbl⟩ := hrel
    have hBw : B ≤ wr.heap.size := by rw [HB.out]; exact hbl.size
    by_cases hlt : k < n
    · have hcell := HC.out wr (by rw [← HB.out]; exact hbl) k hlt
      have HW := Lib.hid (rWrite_any (p k).1 (HP.out.rep k hlt) (HP.out.wr k hlt))
      have htz : (runesBytes (t k)).size ≤ 240 := by
        have := (HP.out.len k hlt).2
        have := runesBytes_size_le (t k); omega
      have hSz : S.size ≤ 15000 := by
        rw [hS.out]
        have := HLEN.out k hk
        have := runesBytes_size_le (joinT t k); omega
      unfold fl at hcell
      generalize W (p k).1 (p k).2 = y at *
      by_cases h0 : k = 0
      · have HJ : Hid (runesBytes (joinT t (k + 1)) = S ++ runesBytes (t k)) := by
          show _ = _
          rw [joinT, if_pos h0, hS.out, runesBytes_append, runesBytes_append, runesBytes_nil]; simp
        have hgt : ¬ 0 < (k : Int) := by omega
        have hsz2 : (S ++ runesBytes (t k)).size ≤ 100000 := by rw [ByteArray.size_append]; omega
        clear h0 hS
        generalize runesBytes (t k) = T at *
        go_wp2_with fail
        refine (HW.out _).mono ?_
        rintro e w3 ⟨rfl, hb3⟩
        have HB3 := Lib.hid (hbl.trans (hb3.mono hBw))
        clear hb3
        go_wp2
        go_roundw
        case rel => exact ⟨k + 1, _, by omega, by go_num, rfl, HJ.out.symm, hsz2, HB3.out⟩
        case measure => simp [intOf]; omega
      · have HJ : Hid (runesBytes (joinT t (k + 1)) = S ++ ⟨#[32]⟩ ++ runesBytes (t k)) := by
          show _ = _
          rw [joinT, if_neg h0, hS.out, runesBytes_append, runesBytes_append, runesBytes_cons, runesBytes_nil, encode_blank]; simp
        have hgt : 0 < (k : Int) := by omega
        have hsz2 : (S ++ ⟨#[32]⟩ ++ runesBytes (t k)).size ≤ 100000 := by
          rw [ByteArray.size_append, ByteArray.size_append, show (⟨#[32]⟩ : ByteArray).size = 1 from rfl]; omega
        clear h0 hS
        generalize runesBytes (t k) = T at *
        go_wp2_with fail
        refine (HW.out _).mono ?_
        rintro e w3 ⟨rfl, hb3⟩
        have HB3 := Lib.hid (hbl.trans (hb3.mono hBw))
        clear hb3
        go_wp2
        go_roundw
        case rel => exact ⟨k + 1, _, by omega, by go_num, rfl, HJ.out.symm, hsz2, HB3.out⟩
        case measure => simp [intOf]; omega
    · obtain rfl : k = n := by omega
      go_wp2
      go_ret
      rw [HS.out, ← hS.out]
      exact ⟨rfl, hbl⟩

set_option maxHeartbeats 400000 in
theorem numbers_nil (a : Option Addr) (c : Nat) (w : World) :
    Calls Tryd.prog 20 #[.slice a 0 c] w fun e w' => Wrote w [] e w' := by
  go_enter Tryd.func20, Tryd.ntmps20
  go_wp2
  refine wp_loop_rounds 1 ?_
  rw [rounds_succ]
  go_wp2
  go_ret
  exact ⟨_, rfl, OwnR.nil _ _, Below.refl _ _⟩
set_option maxHeartbeats 400000 in
theorem rnumbers_nil (a : Option Addr) (c : Nat) (w : World) :
    Calls Tryd.prog 21 #[.slice a 0 c] w fun e w' => Texts w (runesBytes []) e w' := by
  go_enter Tryd.func21, Tryd.ntmps21
  go_wp2
  refine wp_loop_rounds 1 ?_
  rw [rounds_succ]
  go_wp2
  go_ret
  exact ⟨rfl, Below.refl _ _⟩

/-- a list of numbers in memory -/
def Floats (w : World) (v : Value) (p : Nat → Bool × Nat) (n : Nat) : Prop := Reads1 w v (flist p n)

theorem Floats.cases {w : World} {v : Value} {p : Nat → Bool × Nat} {n : Nat} (h : Floats w v p n) :
    (∃ a c, v = .slice a 0 c ∧ n = 0) ∨ ∃ b o c, v = .slice (some ⟨b, o, none⟩) n c ∧ ∀ i, i < n → w.cell? ⟨b, o + i, none⟩ = some (fl (p i)) := by
  rcases h with ⟨a, c, rfl, h⟩ | ⟨b, o, m, c, rfl, hn, hc⟩
  · have := congrArg List.length h
    rw [flist_len] at this
    exact .inl ⟨a, c, rfl, this⟩
  · rw [flist_len] at hn
    subst hn
    refine .inr ⟨b, o, c, rfl, fun i hi => ?_⟩
    rw [hc i (by rw [flist_len]; exact hi), flist_get]

theorem numbers_any {w : World} {v : Value} {p : Nat → Bool × Nat} {n : Nat} {t : Nat → List Int} (h : Floats w v p n) (hp : NumsOk p t n) (hn60 : n ≤ 60) (ht : TzTab w) :
    Calls Tryd.prog 20 #[v] w fun e w' => Wrote w (joinT t n) e w' := by
  rcases h.cases with ⟨a, c, rfl, rfl⟩ | ⟨b, o, c, rfl, hc⟩
  · exact numbers_nil a c w
  · exact numbers_walk b o c n p t hp hn60 w ht hc
theorem rnumbers_any {w : World} {v : Value} {p : Nat → Bool × Nat} {n : Nat} {t : Nat → List Int} (h : Floats w v p n) (hp : NumsOk p t n) (hn60 : n ≤ 60) :
    Calls Tryd.prog 21 #[v] w fun e w' => Texts w (runesBytes (joinT t n)) e w' := by
  rcases h.cases with ⟨a, c, rfl, rfl⟩ | ⟨b, o, c, rfl, hc⟩
  · exact rnumbers_nil a c w
  · exact rnumbers_walk b o c n p t hp hn60 w hc

/-- where the k-th number begins -/
def offT (t : Nat → List Int) (k : Nat) : Nat := (joinT t k).length + (if k = 0 then 0 else 1)

theorem joinT_split {t : Nat → List Int} {n k : Nat} (h : k < n) : ∃ r, joinT t n = joinT t (k + 1) ++ r ∧ (k + 1 = n → r = []) ∧ (k + 1 < n → ∃ u, r = 32 :: u) := by
  induction n with
  | zero => omega
  | succ n ih =>
    by_cases hk : k = n
    · subst hk; exact ⟨[], by simp, fun _ => rfl, fun h => by omega⟩
    · obtain ⟨r, e, h1, h2⟩ := ih (by omega)
      refine ⟨r ++ [32] ++ t n, ?_, fun h => by omega, fun _ => ?_⟩
      · conv => lhs; unfold joinT
        rw [if_neg (by omega), e]; simp
      · by_cases h3 : k + 1 = n
        · rw [h1 h3]; exact ⟨t n, rfl⟩
        · obtain ⟨u, hu⟩ := h2 (by omega)
          rw [hu]; exact ⟨u ++ [32] ++ t n, rfl⟩

/-- the k-th number is read at its place -/
theorem read_at {p : Nat → Bool × Nat} {t : Nat → List Int} {n k : Nat} (hp : NumsOk p t n) (h : k < n) :
    readS (joinT t n) (offT t k) = some (W (p k).1 (p k).2, (joinT t (k + 1)).length) ∧ (joinT t (k + 1)).length ≤ (joinT t n).length ∧
    (k + 1 < n → (joinT t n)[(joinT t (k + 1)).length]? = some 32) := by
  obtain ⟨r, e, h1, h2⟩ := joinT_split (t := t) h
  have hr : Ends2 r := by
    by_cases hk : k + 1 = n
    · exact .inl (h1 hk)
    · obtain ⟨u, hu⟩ := h2 (by omega)
      exact .inr ⟨32, u, hu, by decide, by decide⟩
  have hj : joinT t (k + 1) = (joinT t k ++ (if k = 0 then [] else [32])) ++ t k := rfl
  have ho : offT t k = (joinT t k ++ (if k = 0 then [] else [32])).length := by
    unfold offT; split <;> simp
  refine ⟨?_, ?_, ?_⟩
  · have hb := readS_back (p k).1 (hp.rep k h) (hp.tidy k h) (hp.wr k h) (joinT t k ++ (if k = 0 then [] else [32])) r hr
    rw [← hj, ← e, ← ho] at hb
    rw [hb, hj, List.length_append, ho]
  · rw [e]; simp
  · intro hk
    obtain ⟨u, hu⟩ := h2 hk
    rw [e, List.getElem?_append_right (Nat.le_refl _), Nat.sub_self, hu]; rfl

theorem offT_succ (t : Nat → List Int) (k : Nat) : offT t (k + 1) = (joinT t (k + 1)).length + 1 := by unfold offT; rw [if_neg (by omega)]
theorem offT_zero (t : Nat → List Int) : offT t 0 = 0 := rfl
end Go.Proofs.YtopdkllbemgmlaaDoor
