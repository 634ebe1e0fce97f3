/- The walk of the law TroubleFinds. Conditions: the type handle of error lies in its variable; fewer than 2^43 names. -/
import Derived.Test.YtnhnaallalgefaaDoorTrL
import Derived.Deep.RegionHeld3
namespace Go.Proofs.YtnhnaallalgefaaDoor
open Go Go.RowKit Go.Proofs

set_option maxRecDepth 100000 in
set_option maxHeartbeats 1000000 in
theorem finds_off (c a o : Int) (vn : Value) (ss : List ByteArray) (w : World) (hs : Sts w vn ss) (hl : ss.length ≤ 8796093022208) (hb : smallB ss = false ∨ c = 0 ∨ o = 0) (he : ErrT w) :
    Calls Tryd.prog 10 #[.int .i64 c, .int .i64 a, vn, .int .i64 o] w fun e w' => e = .returned (.bool true) ∧ Below w.heap.size w w' := by
  have HS := Lib.hid (small_walk vn ss w hs hl)
  have HA := Lib.hid (awake_walk w he)
  have HBB := Lib.hid hb
  obtain ⟨A, cc, n, hv, hn, _⟩ := hs.open_
  have HNL := Lib.hid hn
  clear hn
  subst hv
  clear hs hl he hb
  go_enter Tryd.func10, Tryd.ntmps10
  go_wp2_with fail
  refine HS.out.mono ?_
  rintro e w' ⟨rfl, rfl⟩
  by_cases hb : smallB ss = false
  · rw [hb]
    clear hb
    go_wp2_with fail
    refine HA.out.mono ?_
    rintro e w' ⟨rfl, hb⟩
    have HB := Lib.hid hb
    clear hb
    go_wp2
    go_ret
    exact ⟨rfl, HB.out⟩
  · have hb' : smallB ss = true := by simpa using hb
    rw [hb']
    have HB2 : Hid (c = 0 ∨ o = 0) := HBB.out.resolve_left hb
    clear hb hb' HBB
    by_cases hc : c = 0
    · subst hc
      go_wp2_with fail
      refine HA.out.mono ?_
      rintro e w' ⟨rfl, hb⟩
      have HB := Lib.hid hb
      clear hb
      go_wp2
      go_ret
      exact ⟨rfl, HB.out⟩
    · obtain rfl : o = 0 := HB2.out.resolve_left hc
      have hcc : (c == 0) = false := by simpa using hc
      go_wp2_with fail
      refine HA.out.mono ?_
      rintro e w' ⟨rfl, hb⟩
      have HB := Lib.hid hb
      clear hb
      go_wp2
      go_ret
      exact ⟨rfl, HB.out⟩

theorem AsTr_tb (c a : Int) (v : Value) (l : List ByteArray) (w0 : World) (vn : Value) (w2 w : World) (h2 : TB w0 vn c a v l w2) (hb : Below w2.heap.size w2 w) (t : Addr) (old : Value) (ht : w.cell? t = some old) (hf : w.frozen? t = false) :
    ∃ b, (w2.cell? ⟨b, 0, none⟩ = some (.int .i64 c) ∧ w2.cell? ⟨b, 1, none⟩ = some (.int .i64 a)) ∧ Calls Tryd.prog 39 #[v, .iface 64 (.pointer (some t))] w fun e w' => e = .returned (.bool true) ∧ SetOne t (.pointer (some ⟨b, 0, none⟩)) w w' := by
  obtain ⟨b, h1, h3, h4⟩ := Chain.end_ h2.ch
  exact ⟨b, ⟨h3, h4⟩, AsTr_walk c a v l b w (h2.err.below hb) (h2.ch.below hb) (h1.below hb) t old ht hf⟩

theorem errCa_walk (c a : Int) (b : Nat) (m : ByteArray) (ms : List ByteArray) (w : World) (hlen : (m :: ms).length ≤ 100) (hsz : ∀ n ∈ m :: ms, n.size ≤ 200) (h : Chain w c a (.iface 61 (.pointer (some ⟨b, 0, none⟩))) (m :: ms)) :
    Calls Tryd.prog 42 #[.pointer (some ⟨b, 0, none⟩)] w fun e w' => e = .returned (.string (textOf c (m :: ms))) ∧ Below w.heap.size w w' := by
  obtain ⟨b0, v', e, h0, h1, hch⟩ := h
  obtain rfl : b = b0 := by simpa using e
  have hs := textOf_size c ms fun n hn => hsz n (List.mem_cons_of_mem _ hn)
  simp at hlen
  refine (errCa_step b m (textOf c ms) v' w h0 h1 (hsz m (List.mem_cons_self ..)) (by omega) (fun k => text_walk c a ms v' _ (by omega) (fun n hn => hsz n (List.mem_cons_of_mem _ hn)) (hch.drewN k))).mono ?_
  rintro e w' ⟨rfl, k, rfl⟩
  exact ⟨rfl, Below.drewN (Below.refl _ _) k⟩

/-- what holds at every step of the last expression -/
structure FB (w0 : World) (vn : Value) (c a : Int) (v : Value) (m : ByteArray) (ms : List ByteArray) (k b n o : Nat) (w : World) : Prop where
  tb : TB w0 vn c a v (m :: ms) w
  ck : w.cell? ⟨k, 0, none⟩ = some (.pointer (some ⟨b, 0, none⟩))
  cb : w.cell? ⟨b, 0, none⟩ = some (.string m)
  cn : w.cell? ⟨n, o, none⟩ = some (.string m)

theorem FB.step {w0 : World} {vn : Value} {c a : Int} {v : Value} {m : ByteArray} {ms : List ByteArray} {k b n o : Nat} {w w' : World} (h : FB w0 vn c a v m ms k b n o w) (hb : Below w.heap.size w w') : FB w0 vn c a v m ms k b n o w' :=
  ⟨h.tb.step hb, by rw [hb.cell (cell_lt h.ck)]; exact h.ck, by rw [hb.cell (cell_lt h.cb)]; exact h.cb, by rw [hb.cell (cell_lt h.cn)]; exact h.cn⟩

theorem FB.all {w0 : World} {vn : Value} {c a : Int} {v : Value} {m : ByteArray} {ms : List ByteArray} {k b n o : Nat} {w : World} (h : FB w0 vn c a v m ms k b n o w) :
    w.cell? ⟨k, 0, none⟩ = some (.pointer (some ⟨b, 0, none⟩)) ∧ w.cell? ⟨b, 0, none⟩ = some (.string m) ∧ w.cell? ⟨n, o, none⟩ = some (.string m) ∧ FB w0 vn c a v m ms k b n o w := ⟨h.ck, h.cb, h.cn, h⟩

set_option maxRecDepth 100000 in
set_option maxHeartbeats 1600000 in
theorem finds_main (c a o : Int) (hc : c ≠ 0) (ho : o ≠ 0) (vn : Value) (ss : List ByteArray) (w : World) (hs : Sts w vn ss) (hb : smallB ss = true) (he : ErrT w) :
    Calls Tryd.prog 10 #[.int .i64 c, .int .i64 a, vn, .int .i64 o] w fun e w' => e = .returned (.bool true) ∧ Below w.heap.size w w' := by
  have hsm := smallB_true hb
  have HSM := Lib.hid hsm
  have HS := Lib.hid (small_walk vn ss w hs (by omega))
  have HM : Hid (Calls Tryd.prog 31 #[.int .i64 c, .int .i64 a, vn] w fun e w' => ∃ v, e = .returned v ∧ TB w vn c a v ss w') :=
    (made_walk c a hc vn ss w hs (by omega)).mono fun e w' ⟨v, h1, h2, h3⟩ => ⟨v, h1, h3, he.below h3, hs.below h3, h2⟩
  have HCN := Lib.hid hc
  have hn0 := Tb.eqlNil
  have hcc : (c == 0) = false := by simpa using hc
  have hoo : (o == 0) = false := by simpa using ho
  obtain ⟨A, cc, n, hv, hn, _⟩ := hs.open_
  have HNL := Lib.hid hn
  clear hn
  subst hv
  clear hs he hsm
  go_enter Tryd.func10, Tryd.ntmps10
  go_wp2_with fail
  refine HS.out.mono ?_
  rintro e w1 ⟨rfl, rfl⟩
  rw [hb]
  clear hb
  go_wp2_with fail
  refine HM.out.mono ?_
  rintro e w2 ⟨v, rfl, h2⟩
  have H2 := Lib.hid h2
  clear h2
  have HIS : Hid (∀ w', Below w2.heap.size w2 w' → Calls Tryd.prog 38 #[v, .iface 52 (.int .i64 o)] w' fun e w'' => e = .returned (.bool (decide (c = o))) ∧ w'' = w') :=
    fun w' hb => Is_walk c a o v (ss.length + 1) w' (.inr ⟨ss, rfl, H2.out.ch.below hb⟩)
  go_wp2_with fail
  refine (HIS.out _ (((Below.refl _ _).alloc (Nat.le_refl _) _).alloc (by simp) _)).mono ?_
  rintro e w' ⟨rfl, rfl⟩
  have hdec : decide (c = o) = decide (o = c) := decide_eq_decide.2 eq_comm
  rw [hdec]
  generalize hoc : decide (o = c) = oc at *
  have hoc2 : (o == c) = oc := by rw [← hoc]; rfl
  have hoc3 : (oc == oc) = true := by simp
  have hoc4 : (oc != oc) = false := by simp
  clear hoc hdec
  go_wp2_with fail
  obtain ⟨W, hW⟩ : ∃ W, W = (w2.alloc (.cells #[.pointer none] 60)).alloc (.cells #[.pointer none] 61) := ⟨_, rfl⟩
  have hbW : Below w2.heap.size w2 W := by rw [hW]; exact ((Below.refl _ _).alloc (Nat.le_refl _) _).alloc (by simp) _
  have hzW : W.heap.size = w2.heap.size + 2 := by rw [hW]; simp
  have hc0 : W.cell? ⟨w2.heap.size, 0, none⟩ = some (.pointer none) := by rw [hW]; rw [World.cell?_alloc_old _ _ _ (by simp)]; rw [World.cell?_alloc_at _ _ _ _ (by simp)]; rfl
  have hc1 : W.cell? ⟨w2.heap.size + 1, 0, none⟩ = some (.pointer none) := by rw [hW]; rw [World.cell?_alloc_at _ _ _ _ (by simp)]; rfl
  have hf0 : W.frozen? ⟨w2.heap.size, 0, none⟩ = false := by rw [hW]; rw [World.frozen?_alloc_old _ _ _ (by simp)]; simp [World.frozen?_alloc_at]
  have hf1 : W.frozen? ⟨w2.heap.size + 1, 0, none⟩ = false := by rw [hW]; simp [World.frozen?_alloc_at]
  rw [← hW]
  obtain ⟨b, ⟨hb0, hb1⟩, HAS⟩ := AsTr_tb c a v ss _ _ _ W H2.out hbW ⟨w2.heap.size, 0, none⟩ _ hc0 hf0
  have HAS := Lib.hid HAS
  have hlt0 := cell_lt hb0
  refine HAS.out.mono ?_
  rintro e w3 ⟨rfl, hs3⟩
  have HB3 : Hid (Below w2.heap.size w2 w3) := hs3.below _ _ (Nat.le_refl _) hbW
  have g0 := hs3.cell
  have g1 : w3.cell? ⟨w2.heap.size + 1, 0, none⟩ = some (.pointer none) := by rw [hs3.other _ (by simp [hzW]) (by simp)]; exact hc1
  have f1 : w3.frozen? ⟨w2.heap.size + 1, 0, none⟩ = false := by rw [hs3.frz _ (by simp [hzW])]; exact hf1
  have e0 : w3.cell? ⟨b, 0, none⟩ = some (.int .i64 c) := by rw [HB3.out.cell hlt0]; exact hb0
  have e1 : w3.cell? ⟨b, 1, none⟩ = some (.int .i64 a) := by rw [HB3.out.cell (cell_lt hb1)]; exact hb1
  have hz3 : w2.heap.size + 2 ≤ w3.heap.size := by rw [← hzW]; exact hs3.size
  have H3 := Lib.hid (H2.out.step HB3.out)
  clear hs3 HAS hc0 hc1 hf0 hf1 HM HIS HS
  have HZW := Lib.hid hzW
  have HWW := Lib.hid hW
  clear hW hzW hbW
  have HF1 := Lib.hid f1
  have HG1 := Lib.hid g1
  have HG0 := Lib.hid g0
  have HE0 := Lib.hid e0
  have HZ3 := Lib.hid hz3
  clear f1 g1 hz3 hb0 hb1
  have hl0 := hlt0
  have hWW : ((word c).toList == (word c).toList) = true := by simp
  have hWW2 : (!(word c).toList == (word c).toList) = false := by simp
  go_wp2_with fail
  refine (errTr_walk b c _ HE0.out).mono ?_
  rintro e w' ⟨rfl, rfl⟩
  go_wp2_with fail
  refine (rWord_walk c _).mono ?_
  rintro e w4 ⟨rfl, hb4⟩
  have hk := hb4.size
  have g0' : w4.cell? ⟨w2.heap.size, 0, none⟩ = some (.pointer (some ⟨b, 0, none⟩)) := by rw [hb4.cell (by have := HZ3.out; simp; omega)]; exact HG0.out
  have HG1' : Hid (w4.cell? ⟨w2.heap.size + 1, 0, none⟩ = some (.pointer none)) := by unfold Hid; rw [hb4.cell (by have := HZ3.out; simp; omega)]; exact HG1.out
  have HF1' : Hid (w4.frozen? ⟨w2.heap.size + 1, 0, none⟩ = false) := by unfold Hid; rw [hb4.frozen (by have := HZ3.out; simp; omega)]; exact HF1.out
  have HE0' : Hid (w4.cell? ⟨b, 0, none⟩ = some (.int .i64 c)) := by unfold Hid; rw [hb4.cell (by have := HZ3.out; simp; omega)]; exact HE0.out
  have H4 := Lib.hid (H3.out.step hb4)
  have HB4' : Hid (Below w2.heap.size w2 w4) := HB3.out.trans (hb4.mono (by have := HZ3.out; omega))
  have HZ4 : Hid (w2.heap.size + 2 ≤ w4.heap.size) := by have := HZ3.out; unfold Hid; omega
  clear hb4 hk g0 e0 e1
  go_wp2_with fail
  refine (unwrapTr_walk b c _ HE0'.out).mono ?_
  rintro e w' ⟨rfl, rfl⟩
  have HB4 : Hid (Below w2.heap.size w2 w') := HB4'.out
  clear HB4' HZW HWW HG1 HF1 HG0 HE0 HZ3 H3 HB3 hoc2 hoc3 hoc4 hl0 hWW hWW2
  cases ss with
  | nil =>
    obtain ⟨b', hv, hb0, _⟩ := H4.out.ch
    subst hv
    have HAS := Lib.hid (AsCa_none c b' w' H4.out.err hb0 ⟨w2.heap.size + 1, 0, none⟩ _ HG1'.out HF1'.out)
    obtain rfl : n = 0 := HNL.out
    clear hb0
    go_wp2_with fail
    refine HAS.out.mono ?_
    rintro e w5 ⟨rfl, hb5⟩
    have H5 := Lib.hid (H4.out.step hb5)
    clear hb5 HAS
    go_wp2_with fail
    refine (awake_walk _ H5.out.err).mono ?_
    rintro e w6 ⟨rfl, hb6⟩
    have H6 := Lib.hid (H5.out.step hb6)
    clear hb6 H5
    go_wp2
    go_ret
    exact ⟨rfl, H6.out.below⟩
  | cons m ms =>
    obtain ⟨b', v', hv, hb0, hb1, _⟩ := H4.out.ch
    subst hv
    have HAS := Lib.hid (AsCa_walk b' w' H4.out.err ⟨w2.heap.size + 1, 0, none⟩ _ HG1'.out HF1'.out)
    obtain ⟨A', cc', n', hv', hn', hcell⟩ := H4.out.sts.open_
    obtain ⟨rfl, rfl, rfl⟩ : A = A' ∧ n = n' ∧ cc = cc' := by simpa using hv'
    obtain ⟨bn, on, rfl, hcel⟩ := hcell 0 (by simp)
    have hcn : w'.cell? ⟨bn, on, none⟩ = some (.string m) := by have := hcel w' (Below.refl _ _); simpa using this
    clear hcel hv' hn' hcell
    have HN' : Hid (n = ms.length + 1) := by have := HNL.out; unfold Hid; simpa using this
    have hn1 : 0 < n := by have := HN'.out; omega
    have hn2 : (0 : Int) < (n : Int) := by omega
    have hngt : decide ((0 : Int) < (n : Int)) = true := by simpa using hn2
    have HLT : Hid (w2.heap.size + 1 < w'.heap.size) := by have := HZ4.out; unfold Hid; omega
    have hne : bn < w2.heap.size ∧ b' < w2.heap.size := by
      have h1 := H2.out.sts
      have h2 := H2.out.ch
      obtain ⟨A', cc', n', hv', hn', hcell⟩ := h1.open_
      obtain ⟨rfl, rfl, rfl⟩ : some (⟨bn, on, none⟩ : Addr) = A' ∧ n = n' ∧ cc = cc' := by simpa using hv'
      obtain ⟨bn', on', e, hcell⟩ := hcell 0 (by simp)
      obtain ⟨rfl, rfl⟩ : bn = bn' ∧ on = on' := by simpa using e
      obtain ⟨b0, v0, hv0, h0, h1, _⟩ := h2
      obtain rfl : b' = b0 := by simpa using hv0
      exact ⟨cell_lt (hcell _ (Below.refl _ _)), cell_lt h0⟩
    have hEE : ∀ W, FB w1 (.slice (some ⟨bn, on, none⟩) n cc) c a (.iface 61 (.pointer (some ⟨b', 0, none⟩))) m ms (w2.heap.size + 1) b' bn on W → Calls Tryd.prog 42 #[.pointer (some ⟨b', 0, none⟩)] W fun e w' => e = .returned (.string (textOf c (m :: ms))) ∧ Below W.heap.size W w' :=
      fun W h => errCa_walk c a b' m ms W (by have := HSM.out.1; omega) HSM.out.2 h.tb.ch
    have hRR : ∀ W, FB w1 (.slice (some ⟨bn, on, none⟩) n cc) c a (.iface 61 (.pointer (some ⟨b', 0, none⟩))) m ms (w2.heap.size + 1) b' bn on W → Calls Tryd.prog 43 #[.int .i64 c, .slice (some ⟨bn, on, none⟩) n cc] W fun e w' => e = .returned (.string (textOf c (m :: ms))) ∧ Below W.heap.size W w' :=
      fun W h => rText_walk c _ (m :: ms) W h.tb.sts HSM.out.1 HSM.out.2
    have hUU : ∀ W, FB w1 (.slice (some ⟨bn, on, none⟩) n cc) c a (.iface 61 (.pointer (some ⟨b', 0, none⟩))) m ms (w2.heap.size + 1) b' bn on W → ∃ t x, Calls Tryd.prog 44 #[.pointer (some ⟨b', 0, none⟩)] W fun e w' => e = .returned (.iface t x) ∧ w' = W := by
      intro W h
      obtain ⟨b0, v0, hv0, h0, h1, h2⟩ := h.tb.ch
      obtain rfl : b' = b0 := by simpa using hv0
      obtain ⟨t, x, rfl⟩ := h2.notNil
      exact ⟨t, x, unwrapCa_walk b' _ W h1⟩
    have hlt5 := hne
    go_wp2_with fail
    refine HAS.out.mono ?_
    rintro e w5 ⟨rfl, hs5⟩
    have HB5 : Hid (Below w2.heap.size w2 w5) := hs5.below _ _ (by simp) HB4.out
    have hFB := (FB.mk (H2.out.step HB5.out) hs5.cell (by rw [hs5.other _ (by have := HLT.out; simp; omega) (by simp; omega)]; exact hb0) (by rw [hs5.other _ (by have := HLT.out; simp; omega) (by simp; omega)]; exact hcn) : FB w1 (.slice (some ⟨bn, on, none⟩) n cc) c a _ m ms (w2.heap.size + 1) b' bn on w5)
    have HFB := Lib.hid hFB
    have HEE := Lib.hid hEE
    have HRR := Lib.hid hRR
    have HUU := Lib.hid hUU
    clear hs5 hb0 hcn hFB hEE hRR hUU hb1 HAS hne hlt5 HG1' HF1' HE0'
    have hmm : (m.toList == m.toList) = true := by simp
    have HAW := Lib.hid awake_walk
    generalize hT : textOf c (m :: ms) = T at *
    clear hT
    have hTT : (T.toList == T.toList) = true := by simp
    go_wp2_with fail
    have hs5 := (HFB.out.step (Below.refl _ _).drew).all
    have hnn : ∀ t x w, (binOp .neq 48 (.iface t x) .nilIface).run Tryd.prog w = .ok (.bool true) w := fun t x w => by
      kernel_rfl
    go_region_held3 (fun W => W.cell? ⟨w2.heap.size + 1, 0, none⟩ = some (.pointer (some ⟨b', 0, none⟩)) ∧ W.cell? ⟨b', 0, none⟩ = some (.string m) ∧ W.cell? ⟨bn, on, none⟩ = some (.string m) ∧ FB w1 (.slice (some ⟨bn, on, none⟩) n cc) c a (.iface 61 (.pointer (some ⟨b', 0, none⟩))) m ms (w2.heap.size + 1) b' bn on W) (first | assumption | exact hs5) (first | (go_at_call 42; refine (HEE.out _ (‹_ ∧ _ ∧ _ ∧ FB _ _ _ _ _ _ _ _ _ _ _ _›).2.2.2).mono ?_; rintro e w6 ⟨rfl, hb6⟩; have hs6 := (FB.step (‹_ ∧ _ ∧ _ ∧ FB _ _ _ _ _ _ _ _ _ _ _ _›).2.2.2 hb6).all) | (go_at_call 43; refine (HRR.out _ (‹_ ∧ _ ∧ _ ∧ FB _ _ _ _ _ _ _ _ _ _ _ _›).2.2.2).mono ?_; rintro e w6 ⟨rfl, hb6⟩; have hs6 := (FB.step (‹_ ∧ _ ∧ _ ∧ FB _ _ _ _ _ _ _ _ _ _ _ _›).2.2.2 hb6).all) | (go_at_call 44; obtain ⟨t, x, hu⟩ := HUU.out _ (‹_ ∧ _ ∧ _ ∧ FB _ _ _ _ _ _ _ _ _ _ _ _›).2.2.2; refine hu.mono ?_; rintro e w6 ⟨rfl, rfl⟩; clear hu) | (go_at_call 29; refine (HAW.out _ (‹_ ∧ _ ∧ _ ∧ FB _ _ _ _ _ _ _ _ _ _ _ _›).2.2.2.tb.err).mono ?_; rintro e w6 ⟨rfl, hb6⟩; have hs6 := (FB.step (‹_ ∧ _ ∧ _ ∧ FB _ _ _ _ _ _ _ _ _ _ _ _›).2.2.2 hb6).all))
    all_goals
      have hfin := (‹_ ∧ _ ∧ _ ∧ FB _ _ _ _ _ _ _ _ _ _ _ _›).2.2.2.tb.below
      go_wp2
      go_ret
      exact ⟨rfl, hfin⟩

theorem finds_any (c a o : Int) (vn : Value) (ss : List ByteArray) (w : World) (hs : Sts w vn ss) (hl : ss.length ≤ 8796093022208) (he : ErrT w) :
    Calls Tryd.prog 10 #[.int .i64 c, .int .i64 a, vn, .int .i64 o] w fun e w' => e = .returned (.bool true) ∧ Below w.heap.size w w' := by
  cases hb : smallB ss with
  | false => exact finds_off c a o vn ss w hs hl (.inl hb) he
  | true =>
    by_cases hc : c = 0
    · exact finds_off c a o vn ss w hs hl (.inr (.inl hc)) he
    by_cases ho : o = 0
    · exact finds_off c a o vn ss w hs hl (.inr (.inr ho)) he
    exact finds_main c a o hc ho vn ss w hs hb he
end Go.Proofs.YtnhnaallalgefaaDoor
