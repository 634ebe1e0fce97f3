/- Names, the reference's Text and Texts. Conditions: as each theorem says. -/
import Derived.Test.YtnhnaallalgefaaDoorTrE
namespace Go.Proofs.YtnhnaallalgefaaDoor
open Go Go.RowKit Go.Proofs

theorem info_str : (Tryd.prog.info? 9).map (fun i => (i.zero, i.size, i.bytes)) = some (some (.string ⟨#[]⟩), 1, 16) := by kernel_rfl

set_option maxRecDepth 100000 in
theorem namesCl_walk (c : Int) (w : World) : Calls Tryd.prog 35 #[.iface 52 (.int .i64 c)] w fun e w' => e = .returned (.slice none 0 0) ∧ w' = w := by
  have z2 := Tb.isClCa
  go_enter Tryd.func35, Tryd.ntmps35
  go_wp2
  refine wp_loop_rounds 1 ?_
  rw [rounds_succ]
  go_wp2
  go_ret
  exact ⟨rfl, rfl⟩

set_option maxRecDepth 100000 in
theorem namesNil_walk (w : World) : Calls Tryd.prog 35 #[.nilIface] w fun e w' => e = .returned (.slice none 0 0) ∧ w' = w := by
  have z2 := Tb.isNilCa
  go_enter Tryd.func35, Tryd.ntmps35
  go_wp2
  refine wp_loop_rounds 1 ?_
  rw [rounds_succ]
  go_wp2
  go_ret
  exact ⟨rfl, rfl⟩

set_option maxRecDepth 100000 in
set_option maxHeartbeats 1000000 in
theorem names_walk (c a : Int) (v : Value) (ns : List ByteArray) (w : World) (h : Chain w c a v ns) (hl : ns.length ≤ 1000) :
    Calls Tryd.prog 35 #[v] w fun e w' => ∃ l, e = .returned l ∧ Own1 w' w.heap.size 9 l (ns.map Value.string) ∧ Below w.heap.size w w' := by
  have z1 := Tb.isTrCa
  have z2 := Tb.isCaCa
  obtain ⟨B, hB⟩ : ∃ B, B = w.heap.size := ⟨_, rfl⟩
  have HB := Lib.hid hB
  have HCELL : Hid (∀ wr p x, Below B w wr → w.cell? p = some x → wr.cell? p = some x) := by
    intro wr p x hb hp; rw [hB] at hb; rw [hb.cell (cell_lt hp)]; exact hp
  rw [← hB]
  have HP := Lib.hid h
  clear h hB
  go_enter Tryd.func35, Tryd.ntmps35
  go_wp2
  go_loopw [0, 3] (fun v l wr => ∃ d r : List ByteArray, Hid (ns = d ++ r) ∧ Chain w c a v r ∧ Own1 wr B 9 l (d.map Value.string) ∧ Below B w wr) (fun v _ _ => posN w c a v)
  case atStart => exact ⟨[], ns, rfl, HP.out, Own1.nil _ _ _, Below.refl _ _⟩
  case round =>
    obtain ⟨d, r, hdr, hch, hown, hbl⟩ := hrel
    have HDR := hdr
    have HM := Lib.hid hch
    have HOWN := Lib.hid hown
    have HBL := Lib.hid hbl
    have hBw : B ≤ wr.heap.size := by rw [HB.out]; exact hbl.size
    cases r with
    | nil =>
      obtain ⟨b, rfl, hc0, hc1⟩ := hch
      have HR : Hid (ns = d) := by unfold Hid; rw [HDR.out]; simp
      clear hc0 hc1 hown hbl hdr
      go_wp2
      go_ret
      exact ⟨_, rfl, by rw [HR.out]; exact HOWN.out, HBL.out⟩
    | cons y r =>
      obtain ⟨b, v', rfl, hc0, hc1, hch'⟩ := hch
      have hk0 := HCELL.out _ _ _ hbl hc0
      have hk1 := HCELL.out _ _ _ hbl hc1
      have HP' := Lib.hid hch'
      have hdl : d.length + 1 ≤ 1000 := by have := congrArg List.length HDR.out; simp at this; omega
      have HL1 : Hid (((d.map Value.string).length + 1) * 16 ≤ 140737488355328) := by unfold Hid; simp; omega
      have HL2 : Hid ((d.map Value.string).length + 1 ≤ 140737488355328) := by unfold Hid; simp; omega
      have HDD : Hid (ns = (d ++ [y]) ++ r) := by unfold Hid; rw [HDR.out]; simp
      have HMAP : Hid ((d ++ [y]).map Value.string = d.map Value.string ++ [Value.string y]) := by unfold Hid; simp
      have HC1 := Lib.hid hc1
      obtain ⟨t, x, rfl⟩ := hch'.notNil
      clear hc0 hc1 hch' hown hbl hdr hdl
      go_wp2_with (at_builtin; refine wpList_push1 rfl (.tmp 18) (.tmp 23) 44 9 rfl Tryd.underlying44 (.string ⟨#[]⟩) 16 info_str rfl B _ (d.map Value.string) rfl HOWN.out (.string y) rfl rfl HL1.out HL2.out hBw ?_; intro v2 w1 hv' hb' hk' hs'; rw [← HMAP.out] at hv'; have HV := Lib.hid hv'; have HB' := Lib.hid (hb' w HBL.out); have hk3 := HCELL.out w1 _ _ HB'.out HC1.out; clear hb' hk' hv')
      go_roundw
      case rel => exact ⟨d ++ [y], r, HDD, HP'.out, HV.out, HB'.out⟩
      case measure =>
        have e1 := posN_eq (.inr ⟨_, rfl, HM.out⟩)
        have e2 := posN_eq (.inr ⟨_, rfl, HP'.out⟩)
        show posN w c a (.iface t x) < posN w c a (.iface 61 (.pointer (some ⟨b, 0, none⟩)))
        rw [e1, e2]; simp

/-- the functions' names in words, a colon and a blank behind each -/
def preOf (ns : List ByteArray) : ByteArray := ns.foldl (fun s n => (s ++ n) ++ ⟨#[58, 32]⟩) ⟨#[]⟩

theorem preOf_snoc (ns : List ByteArray) (n : ByteArray) : preOf (ns ++ [n]) = (preOf ns ++ n) ++ ⟨#[58, 32]⟩ := by simp [preOf]

theorem preOf_fold (c : Int) : ∀ (ns : List ByteArray) (s : ByteArray), ns.foldl (fun s n => (s ++ n) ++ ⟨#[58, 32]⟩) s ++ word c = s ++ textOf c ns
  | [], s => rfl
  | n :: ns, s => by
    show ns.foldl (fun s n => (s ++ n) ++ ⟨#[58, 32]⟩) ((s ++ n) ++ ⟨#[58, 32]⟩) ++ word c = _
    rw [preOf_fold c ns]
    simp [textOf, ByteArray.append_assoc]

theorem preOf_text (c : Int) (ns : List ByteArray) : preOf ns ++ word c = textOf c ns := by
  have := preOf_fold c ns ⟨#[]⟩
  unfold preOf
  rw [this]
  exact ByteArray.empty_append

theorem preOf_size : ∀ ns : List ByteArray, (∀ n ∈ ns, n.size ≤ 200) → (preOf ns).size ≤ 202 * ns.length := by
  have : ∀ (ns : List ByteArray) (s : ByteArray), (∀ n ∈ ns, n.size ≤ 200) → (ns.foldl (fun s n => (s ++ n) ++ ⟨#[58, 32]⟩) s).size ≤ s.size + 202 * ns.length := by
    intro ns
    induction ns with
    | nil => intro s _; simp
    | cons n ns ih =>
      intro s h
      have h1 := ih ((s ++ n) ++ ⟨#[58, 32]⟩) fun m hm => h m (List.mem_cons_of_mem _ hm)
      have h2 := h n (List.mem_cons_self ..)
      have h3 : ByteArray.size ⟨#[58, 32]⟩ = 2 := rfl
      simp only [ByteArray.size_append] at h1
      simp only [List.foldl_cons, List.length_cons]
      omega
  intro ns h
  have h1 := this ns ⟨#[]⟩ h
  have h2 : ByteArray.size ⟨#[]⟩ = 0 := rfl
  unfold preOf
  omega

set_option maxRecDepth 100000 in
set_option maxHeartbeats 1000000 in
theorem rText_walk (c : Int) (v : Value) (ss : List ByteArray) (w : World) (hs : Sts w v ss) (hl : ss.length ≤ 60) (hz : ∀ s ∈ ss, s.size ≤ 200) :
    Calls Tryd.prog 43 #[.int .i64 c, v] w fun e w' => e = .returned (.string (textOf c ss)) ∧ Below w.heap.size w w' := by
  obtain ⟨A, cc, n, rfl, hn, hc⟩ := hs.open_
  have HC := Lib.hid hc
  have HN := Lib.hid hn
  have hl' : n ≤ 60 := by omega
  have HZ := Lib.hid hz
  have HSZ : Hid (∀ k, k ≤ n → (preOf (ss.take k)).size ≤ 202 * k) := by
    intro k hk
    have := preOf_size (ss.take k) fun s h => hz s (List.mem_of_mem_take h)
    rw [List.length_take] at this
    omega
  clear hc hs hn hl hz
  go_enter Tryd.func43, Tryd.ntmps43
  go_wp2
  go_loop [5, 6] (fun s i => ∃ k : Nat, k ≤ n ∧ i = .int .i64 (k : Int) ∧ s = .string (preOf (ss.take k))) (fun _ i => n - (intOf i).toNat)
  case atStart => exact ⟨0, Nat.zero_le _, by go_num, rfl⟩
  case round =>
    obtain ⟨k, hk, rfl, rfl⟩ := hrel
    by_cases hlt : k < n
    · have hj : k < ss.length := by have := HN.out; omega
      obtain ⟨b, o, rfl, hcell⟩ := HC.out k hj
      have hce := hcell _ (Below.refl _ _)
      have HTK : Hid (preOf (ss.take (k + 1)) = (preOf (ss.take k) ++ ss[k]) ++ ⟨#[58, 32]⟩) := by
        unfold Hid; rw [← preOf_snoc]; congr 1; exact List.take_succ_eq_append_getElem hj
      have hs1 := HSZ.out k hk
      have hs2 := HZ.out ss[k] (List.getElem_mem _)
      have h3 : ByteArray.size ⟨#[58, 32]⟩ = 2 := rfl
      clear hcell
      generalize ss[k] = sj at *
      generalize preOf (ss.take k) = pk at *
      have a1 := fun w => run_string_add_sum (P := Tryd.prog) w pk sj (by omega)
      have a2 := fun w => run_string_add_sum (P := Tryd.prog) w (pk ++ sj) ⟨#[58, 32]⟩ (by rw [ByteArray.size_append]; omega)
      clear hs1 hs2 h3
      go_wp2
      go_round
      case rel => exact ⟨k + 1, by omega, by go_num, by rw [HTK.out]⟩
      case measure => simp [intOf]; omega
    · have HT : Hid (textOf c ss = preOf (ss.take k) ++ word c) := by
        unfold Hid
        rw [← preOf_text, List.take_of_length_le (by have := HN.out; omega)]
      have hs1 := HSZ.out k hk
      have hs2 := word_size c
      generalize preOf (ss.take k) = pk at *
      have a1 := fun w => run_string_add_sum (P := Tryd.prog) w pk (word c) (by omega)
      clear hs1 hs2
      go_wp2_with fail
      refine (rWord_walk c _).mono ?_
      rintro e w1 ⟨rfl, hb1⟩
      have HB1 := Lib.hid hb1
      clear hb1
      go_wp2
      go_ret
      exact ⟨by rw [HT.out]; rfl, HB1.out⟩
end Go.Proofs.YtnhnaallalgefaaDoor
