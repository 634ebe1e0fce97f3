/- The statement LitApart, from its walks. Conditions: the table of math/bits reads as its text lays it. -/
import Derived.Test.YtopdkllbemgmlaaDoorLitT
namespace Go.Proofs.YtopdkllbemgmlaaDoor
open Go Go.RowKit Go.Proofs Fl

/-- a sign that is written in a number -/
def NumC (c : Int) : Prop := (48 ≤ c ∧ c ≤ 57) ∨ c = 112 ∨ c = 175

theorem decR_numc (m : Nat) : ∀ c ∈ decR m, NumC c := by
  induction m using Nat.strongRecOn with
  | _ m ih =>
    intro c hc
    by_cases h : m / 10 = 0
    · rw [decR_last h] at hc
      simp at hc; left; omega
    · rw [decR_next h] at hc
      rcases List.mem_cons.1 hc with rfl | hc
      · left; omega
      · exact ih _ (by omega) c hc
theorem writeS_numc (n : Int) : ∀ c ∈ writeS n, NumC c := by
  intro c hc
  unfold writeS at hc
  rcases List.mem_append.1 hc with h | h
  · split at h
    · simp at h; exact .inr (.inr h)
    · cases h
  · exact decR_numc _ c (List.mem_reverse.1 h)
theorem wr_numc {s : Bool} {Z : Nat} {l : List Int} (h : WrIs s Z l) : ∀ c ∈ l, NumC c := by
  rcases h with ⟨m, _, _, hl⟩ | ⟨_, q, j, _, _, hl⟩ <;> rw [hl]
  · exact writeS_numc _
  · intro c hc
    rcases List.mem_append.1 hc with h | h
    · exact writeS_numc _ c h
    · rcases List.mem_cons.1 h with rfl | h
      · exact .inr (.inl rfl)
      · exact writeS_numc _ c h

/-- the bytes of such a sign -/
def bytesC (c : Int) : List UInt8 := if c = 175 then [194, 175] else [UInt8.ofNat c.toNat]
theorem encode_numc {c : Int} (h : NumC c) : (Utf8.encode c).data.toList = bytesC c := by
  unfold bytesC
  rcases h with h | h | h
  · rw [encode_ascii c (by omega) (by omega), if_neg (by omega)]
  · subst h; rfl
  · subst h; rw [encode_high]; rfl

theorem rb_cons {c : Int} {l : List Int} (h : NumC c) : (runesBytes (c :: l)).data.toList = bytesC c ++ (runesBytes l).data.toList := by
  rw [runesBytes_cons, ByteArray.data_append, Array.toList_append, encode_numc h]

theorem u8_inj {a b : Int} (ha : 0 ≤ a) (ha2 : a < 128) (hb : 0 ≤ b) (hb2 : b < 128) (h : UInt8.ofNat a.toNat = UInt8.ofNat b.toNat) : a = b := by
  have := congrArg UInt8.toNat h
  simp only [UInt8.toNat_ofNat'] at this
  omega

theorem bytesC_inj {c d : Int} (hc : NumC c) (hd : NumC d) {x y : List UInt8} (h : bytesC c ++ x = bytesC d ++ y) : c = d ∧ x = y := by
  unfold bytesC at h
  have h194 : ∀ a : Int, 0 ≤ a → a < 128 → UInt8.ofNat a.toNat ≠ 194 := by
    intro a h0 h1 e
    have := congrArg UInt8.toNat e
    simp only [UInt8.toNat_ofNat'] at this
    have h3 : (194 : UInt8).toNat = 194 := rfl
    omega
  by_cases h1 : c = 175
  · by_cases h2 : d = 175
    · rw [if_pos h1, if_pos h2] at h
      exact ⟨by omega, by simpa using h⟩
    · rw [if_pos h1, if_neg h2] at h
      simp only [List.cons_append, List.cons.injEq] at h
      exact absurd h.1.symm (h194 d (by unfold NumC at hd; omega) (by unfold NumC at hd; omega))
  · by_cases h2 : d = 175
    · rw [if_neg h1, if_pos h2] at h
      simp only [List.cons_append, List.cons.injEq] at h
      exact absurd h.1 (h194 c (by unfold NumC at hc; omega) (by unfold NumC at hc; omega))
    · rw [if_neg h1, if_neg h2] at h
      simp only [List.cons_append, List.nil_append, List.cons.injEq] at h
      exact ⟨u8_inj (by unfold NumC at hc; omega) (by unfold NumC at hc; omega) (by unfold NumC at hd; omega) (by unfold NumC at hd; omega) h.1, h.2⟩

theorem rb_inj : ∀ (l m : List Int), (∀ c ∈ l, NumC c) → (∀ c ∈ m, NumC c) → (runesBytes l).data.toList = (runesBytes m).data.toList → l = m
  | [], [], _, _, _ => rfl
  | [], d :: m, _, hm, h => by
    rw [rb_cons (hm d (by simp))] at h
    have := congrArg List.length h
    unfold bytesC at this
    simp [runesBytes_nil] at this
    split at this <;> simp at this <;> omega
  | c :: l, [], hl, _, h => by
    rw [rb_cons (hl c (by simp))] at h
    have := congrArg List.length h
    unfold bytesC at this
    simp [runesBytes_nil] at this
    split at this <;> simp at this
  | c :: l, d :: m, hl, hm, h => by
    rw [rb_cons (hl c (by simp)), rb_cons (hm d (by simp))] at h
    obtain ⟨rfl, h2⟩ := bytesC_inj (hl c (by simp)) (hm d (by simp)) h
    rw [rb_inj l m (fun c hc => hl c (by simp [hc])) (fun c hc => hm c (by simp [hc])) h2]

/-- like texts, like numbers -/
theorem wr_apart {s t : Bool} {Z Y : Nat} (hz : Rep Z) (hy : Rep Y) (h1 : Z = 0 → s = false) (h2 : Y = 0 → t = false) {l m : List Int} (hl : WrIs s Z l) (hm : WrIs t Y m)
    (h : (runesBytes l).toList = (runesBytes m).toList) : W s Z = W t Y := by
  rw [ByteArray.toList_eq, ByteArray.toList_eq] at h
  have e := rb_inj l m (wr_numc hl) (wr_numc hm) h
  have r1 := readS_whole s hz h1 hl
  have r2 := readS_whole t hy h2 hm
  rw [e, r2] at r1
  exact (congrArg Prod.fst (Option.some.inj r1)).symm

theorem W_order {s t : Bool} {Z Y : Nat} (hz : Rep Z) (hy : Rep Y) (h1 : Z = 0 → s = false) (h2 : Y = 0 → t = false) (h : FloatKind.f64.format.order (W s Z) (W t Y) = some .eq) : W s Z = W t Y := by
  have h3 := fo_eq s t hz hy
  rw [h] at h3
  have h4 : sg s Z = sg t Y := by simpa using h3
  have h5 : Z = Y := by unfold sg at h4; split at h4 <;> split at h4 <;> omega
  subst h5
  by_cases h0 : Z = 0
  · rw [h1 h0, h2 h0]
  · have : s = t := by
      cases s <;> cases t <;> first | rfl | (unfold sg at h4; simp at h4; omega)
    rw [this]

set_option maxHeartbeats 800000 in
theorem litApart_bad (x y bx by_ : Nat) (t u : Bool) (htu : (t && u) = false) (w : World) (ht : TzTab w)
    (hx : ∀ w, Calls Tryd.prog 8 #[.float .f64 x] w fun e w' => e = .returned (.tuple #[.float .f64 bx, .bool t]) ∧ w = w')
    (hy : ∀ w, Calls Tryd.prog 8 #[.float .f64 y] w fun e w' => e = .returned (.tuple #[.float .f64 by_, .bool u]) ∧ w = w') :
    Calls Tryd.prog 6 #[.float .f64 x, .float .f64 y] w fun e w' => e = .returned (.bool true) ∧ Below w.heap.size w w' := by
  have HX := Lib.hid hx
  have HY := Lib.hid hy
  have HT := Lib.hid ht
  clear hx hy ht
  cases t <;> cases u <;> first | (cases htu; done) | skip
  all_goals
    clear htu
    go_enter Tryd.func6, Tryd.ntmps6
    go_wp2_with fail
    refine (HX.out _).mono ?_
    rintro e w' ⟨rfl, rfl⟩
    go_wp2_with fail
    refine (HY.out _).mono ?_
    rintro e w' ⟨rfl, rfl⟩
    go_wp2_with fail
    refine (awake_any _ HT.out).mono ?_
    rintro e w' ⟨rfl, hbl⟩
    go_wp2_with fail
    go_ret
    exact ⟨rfl, hbl⟩

theorem litApart_any (x : Nat) (hx : x < 18446744073709551616) (y : Nat) (hy : y < 18446744073709551616) {w : World} (ht : TzTab w) :
    Calls Tryd.prog 6 #[.float .f64 x, .float .f64 y] w fun e w' => e = .returned (.bool true) ∧ Below w.heap.size w w' := by
  rcases classify x hx with ⟨s, Z, hz, rfl⟩ | h
  · obtain ⟨s', h1, h2⟩ := tidy_ex s hz
    rcases classify y hy with ⟨t, Y, hy2, rfl⟩ | h
    · obtain ⟨t', h3, h4⟩ := tidy_ex t hy2
      obtain ⟨l, hl⟩ := wr_ex s' hz
      obtain ⟨m, hm⟩ := wr_ex t' hy2
      by_cases he : W s' Z = W t' Y
      · refine litApart_same _ _ (W s' Z) l _ w ht h2 (by rw [he]; exact h4) (fun w ht => lWrite_any s' hz hl w ht) rfl (fo_refl s' hz)
      · refine litApart_num _ _ (W s' Z) (W t' Y) l m _ _ w ht h2 h4 (fun w ht => lWrite_any s' hz hl w ht) (fun w ht => lWrite_any t' hy2 hm w ht) rfl rfl ?_ ?_
        · exact fun e => he (wr_apart hz hy2 h1 h3 hl hm e)
        · exact fun e => he (W_order hz hy2 h1 h3 e)
    · exact litApart_bad _ y _ _ true false rfl w ht h2 (rtidy_bad h)
  · rcases classify y hy with ⟨t, Y, hy2, rfl⟩ | h'
    · obtain ⟨t', h3, h4⟩ := tidy_ex t hy2
      exact litApart_bad x _ _ _ false true rfl w ht (rtidy_bad h) h4
    · exact litApart_bad x y _ _ false false rfl w ht (rtidy_bad h) (rtidy_bad h')
end Go.Proofs.YtopdkllbemgmlaaDoor
