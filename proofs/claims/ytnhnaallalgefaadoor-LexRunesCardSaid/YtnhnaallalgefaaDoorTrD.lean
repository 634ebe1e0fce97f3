/- The words of troubles: trouble.Word, the reference's Word, the methods Error, and both Texts. Conditions: names of at most 200 bytes, at most 60. -/
import Derived.Test.YtnhnaallalgefaaDoorTrB
import Derived.Deep.QuietTactic
namespace Go.Proofs.YtnhnaallalgefaaDoor
open Go Go.RowKit Go.Proofs

/-- a class in words -/
def word (c : Int) : ByteArray :=
  if c = 20 then ⟨#[83, 89, 78, 84, 65, 88, 32, 69, 82, 82, 79, 82]⟩
  else if c = 21 then ⟨#[86, 65, 76, 85, 69, 32, 69, 82, 82, 79, 82]⟩
  else if c = 22 then ⟨#[82, 65, 78, 75, 32, 69, 82, 82, 79, 82]⟩
  else if c = 23 then ⟨#[76, 69, 78, 71, 84, 72, 32, 69, 82, 82, 79, 82]⟩
  else if c = 24 then ⟨#[68, 79, 77, 65, 73, 78, 32, 69, 82, 82, 79, 82]⟩
  else if c = 25 then ⟨#[73, 78, 68, 69, 88, 32, 69, 82, 82, 79, 82]⟩
  else if c = 26 then ⟨#[76, 73, 77, 73, 84, 32, 69, 82, 82, 79, 82]⟩
  else if c = 27 then ⟨#[70, 85, 69, 76, 32, 69, 82, 82, 79, 82]⟩
  else ⟨#[69, 82, 82, 79, 82]⟩

theorem word_size (c : Int) : (word c).size ≤ 12 := by
  unfold word
  repeat' split
  all_goals decide

set_option maxRecDepth 100000 in
theorem word_walk (c : Int) (w : World) : Calls Tryd.prog 47 #[.int .i64 c] w fun e w' => e = .returned (.string (word c)) ∧ w' = w := by
  by_cases h20 : c = 20
  · subst h20
    have HW : Hid (word 20 = ⟨#[83, 89, 78, 84, 65, 88, 32, 69, 82, 82, 79, 82]⟩) := rfl
    go_enter Tryd.func47, Tryd.ntmps47
    go_wp2
    go_ret
    exact ⟨by rw [HW.out]; rfl, rfl⟩
  by_cases h21 : c = 21
  · subst h21
    have HW : Hid (word 21 = ⟨#[86, 65, 76, 85, 69, 32, 69, 82, 82, 79, 82]⟩) := rfl
    go_enter Tryd.func47, Tryd.ntmps47
    go_wp2
    go_ret
    exact ⟨by rw [HW.out]; rfl, rfl⟩
  by_cases h22 : c = 22
  · subst h22
    have HW : Hid (word 22 = ⟨#[82, 65, 78, 75, 32, 69, 82, 82, 79, 82]⟩) := rfl
    go_enter Tryd.func47, Tryd.ntmps47
    go_wp2
    go_ret
    exact ⟨by rw [HW.out]; rfl, rfl⟩
  by_cases h23 : c = 23
  · subst h23
    have HW : Hid (word 23 = ⟨#[76, 69, 78, 71, 84, 72, 32, 69, 82, 82, 79, 82]⟩) := rfl
    go_enter Tryd.func47, Tryd.ntmps47
    go_wp2
    go_ret
    exact ⟨by rw [HW.out]; rfl, rfl⟩
  by_cases h24 : c = 24
  · subst h24
    have HW : Hid (word 24 = ⟨#[68, 79, 77, 65, 73, 78, 32, 69, 82, 82, 79, 82]⟩) := rfl
    go_enter Tryd.func47, Tryd.ntmps47
    go_wp2
    go_ret
    exact ⟨by rw [HW.out]; rfl, rfl⟩
  by_cases h25 : c = 25
  · subst h25
    have HW : Hid (word 25 = ⟨#[73, 78, 68, 69, 88, 32, 69, 82, 82, 79, 82]⟩) := rfl
    go_enter Tryd.func47, Tryd.ntmps47
    go_wp2
    go_ret
    exact ⟨by rw [HW.out]; rfl, rfl⟩
  by_cases h26 : c = 26
  · subst h26
    have HW : Hid (word 26 = ⟨#[76, 73, 77, 73, 84, 32, 69, 82, 82, 79, 82]⟩) := rfl
    go_enter Tryd.func47, Tryd.ntmps47
    go_wp2
    go_ret
    exact ⟨by rw [HW.out]; rfl, rfl⟩
  by_cases h27 : c = 27
  · subst h27
    have HW : Hid (word 27 = ⟨#[70, 85, 69, 76, 32, 69, 82, 82, 79, 82]⟩) := rfl
    go_enter Tryd.func47, Tryd.ntmps47
    go_wp2
    go_ret
    exact ⟨by rw [HW.out]; rfl, rfl⟩
  have HW : Hid (word c = ⟨#[69, 82, 82, 79, 82]⟩) := by unfold Hid word; simp [h20, h21, h22, h23, h24, h25, h26, h27]
  go_enter Tryd.func47, Tryd.ntmps47
  go_wp2
  go_ret
  exact ⟨by rw [HW.out]; rfl, rfl⟩

set_option maxRecDepth 100000 in
set_option maxHeartbeats 1000000 in
theorem rWord_walk (c : Int) (w : World) : Calls Tryd.prog 37 #[.int .i64 c] w fun e w' => e = .returned (.string (word c)) ∧ Below w.heap.size w w' := by
  by_cases h20 : c = 20
  · subst h20
    have HW : Hid (word 20 = ⟨#[83, 89, 78, 84, 65, 88, 32, 69, 82, 82, 79, 82]⟩) := rfl
    go_enter Tryd.func37, Tryd.ntmps37
    go_wp2
    go_ret
    exact ⟨by rw [HW.out]; rfl, (Below.refl _ w).alloc (Nat.le_refl _) _⟩
  by_cases h21 : c = 21
  · subst h21
    have HW : Hid (word 21 = ⟨#[86, 65, 76, 85, 69, 32, 69, 82, 82, 79, 82]⟩) := rfl
    go_enter Tryd.func37, Tryd.ntmps37
    go_wp2
    go_ret
    exact ⟨by rw [HW.out]; rfl, (Below.refl _ w).alloc (Nat.le_refl _) _⟩
  by_cases h22 : c = 22
  · subst h22
    have HW : Hid (word 22 = ⟨#[82, 65, 78, 75, 32, 69, 82, 82, 79, 82]⟩) := rfl
    go_enter Tryd.func37, Tryd.ntmps37
    go_wp2
    go_ret
    exact ⟨by rw [HW.out]; rfl, (Below.refl _ w).alloc (Nat.le_refl _) _⟩
  by_cases h23 : c = 23
  · subst h23
    have HW : Hid (word 23 = ⟨#[76, 69, 78, 71, 84, 72, 32, 69, 82, 82, 79, 82]⟩) := rfl
    go_enter Tryd.func37, Tryd.ntmps37
    go_wp2
    go_ret
    exact ⟨by rw [HW.out]; rfl, (Below.refl _ w).alloc (Nat.le_refl _) _⟩
  by_cases h24 : c = 24
  · subst h24
    have HW : Hid (word 24 = ⟨#[68, 79, 77, 65, 73, 78, 32, 69, 82, 82, 79, 82]⟩) := rfl
    go_enter Tryd.func37, Tryd.ntmps37
    go_wp2
    go_ret
    exact ⟨by rw [HW.out]; rfl, (Below.refl _ w).alloc (Nat.le_refl _) _⟩
  by_cases h25 : c = 25
  · subst h25
    have HW : Hid (word 25 = ⟨#[73, 78, 68, 69, 88, 32, 69, 82, 82, 79, 82]⟩) := rfl
    go_enter Tryd.func37, Tryd.ntmps37
    go_wp2
    go_ret
    exact ⟨by rw [HW.out]; rfl, (Below.refl _ w).alloc (Nat.le_refl _) _⟩
  by_cases h26 : c = 26
  · subst h26
    have HW : Hid (word 26 = ⟨#[76, 73, 77, 73, 84, 32, 69, 82, 82, 79, 82]⟩) := rfl
    go_enter Tryd.func37, Tryd.ntmps37
    go_wp2
    go_ret
    exact ⟨by rw [HW.out]; rfl, (Below.refl _ w).alloc (Nat.le_refl _) _⟩
  by_cases h27 : c = 27
  · subst h27
    have HW : Hid (word 27 = ⟨#[70, 85, 69, 76, 32, 69, 82, 82, 79, 82]⟩) := rfl
    go_enter Tryd.func37, Tryd.ntmps37
    go_wp2
    go_ret
    exact ⟨by rw [HW.out]; rfl, (Below.refl _ w).alloc (Nat.le_refl _) _⟩
  have HW : Hid (word c = ⟨#[69, 82, 82, 79, 82]⟩) := by unfold Hid word; simp [h20, h21, h22, h23, h24, h25, h26, h27]
  rcases (show c < 20 ∨ 27 < c by omega) with hlt | hgt
  · go_enter Tryd.func37, Tryd.ntmps37
    go_wp2
    go_ret
    exact ⟨by rw [HW.out]; rfl, (Below.refl _ w).alloc (Nat.le_refl _) _⟩
  · have hn : ¬ c < 20 := by omega
    go_enter Tryd.func37, Tryd.ntmps37
    go_wp2
    go_ret
    exact ⟨by rw [HW.out]; rfl, (Below.refl _ w).alloc (Nat.le_refl _) _⟩

theorem errCl_walk (c : Int) (w : World) : Calls Tryd.prog 48 #[.int .i64 c] w fun e w' => e = .returned (.string (word c)) ∧ w' = w := by
  go_enter Tryd.func48, Tryd.ntmps48
  go_wp2_with fail
  refine (word_walk c _).mono ?_
  rintro e w' ⟨rfl, rfl⟩
  go_wp2
  go_ret
  exact ⟨rfl, rfl⟩

theorem errTr_walk (b : Nat) (c : Int) (w : World) (h : w.cell? ⟨b, 0, none⟩ = some (.int .i64 c)) :
    Calls Tryd.prog 40 #[.pointer (some ⟨b, 0, none⟩)] w fun e w' => e = .returned (.string (word c)) ∧ w' = w := by
  go_enter Tryd.func40, Tryd.ntmps40
  go_wp2_with fail
  refine (errCl_walk c _).mono ?_
  rintro e w' ⟨rfl, rfl⟩
  go_wp2
  go_ret
  exact ⟨rfl, rfl⟩

/-- a trouble in words -/
def textOf (c : Int) : List ByteArray → ByteArray
  | [] => word c
  | n :: ns => (n ++ ⟨#[58, 32]⟩) ++ textOf c ns

theorem textOf_size (c : Int) : ∀ ns : List ByteArray, (∀ n ∈ ns, n.size ≤ 200) → (textOf c ns).size ≤ 202 * ns.length + 12
  | [], _ => by have := word_size c; simpa [textOf] using this
  | n :: ns, h => by
    have h1 := textOf_size c ns fun m hm => h m (List.mem_cons_of_mem _ hm)
    have h2 := h n (List.mem_cons_self ..)
    simp [textOf, ByteArray.size_append]
    have : ByteArray.size ⟨#[58, 32]⟩ = 2 := rfl
    omega

theorem Tb.isTrTr (v : Value) (w : World) : (Instr.typeAssert (.iface 60 v) 48 60 true).run Tryd.prog w = .ok (.tuple #[v, .bool true]) w := by kernel_rfl
theorem Tb.isCaTr (v : Value) (w : World) : (Instr.typeAssert (.iface 61 v) 48 60 true).run Tryd.prog w = .ok (.tuple #[.pointer none, .bool false]) w := by kernel_rfl
theorem Tb.isClTr (v : Value) (w : World) : (Instr.typeAssert (.iface 52 v) 48 60 true).run Tryd.prog w = .ok (.tuple #[.pointer none, .bool false]) w := by kernel_rfl
theorem Tb.isCaCa (v : Value) (w : World) : (Instr.typeAssert (.iface 61 v) 48 61 true).run Tryd.prog w = .ok (.tuple #[v, .bool true]) w := by kernel_rfl
theorem Tb.isTrCa (v : Value) (w : World) : (Instr.typeAssert (.iface 60 v) 48 61 true).run Tryd.prog w = .ok (.tuple #[.pointer none, .bool false]) w := by kernel_rfl
theorem Tb.isClCa (v : Value) (w : World) : (Instr.typeAssert (.iface 52 v) 48 61 true).run Tryd.prog w = .ok (.tuple #[.pointer none, .bool false]) w := by kernel_rfl
theorem Tb.isClCl (v : Value) (w : World) : (Instr.typeAssert (.iface 52 v) 48 52 true).run Tryd.prog w = .ok (.tuple #[v, .bool true]) w := by kernel_rfl

theorem textCl_walk (c : Int) (w : World) : Calls Tryd.prog 36 #[.iface 52 (.int .i64 c)] w fun e w' => e = .returned (.string (word c)) ∧ w' = w := by
  have z1 := Tb.isClTr
  have z2 := Tb.isClCa
  have z3 := Tb.isClCl
  go_enter Tryd.func36, Tryd.ntmps36
  go_wp2_with fail
  refine (errCl_walk c _).mono ?_
  rintro e w' ⟨rfl, rfl⟩
  go_wp2
  go_ret
  exact ⟨rfl, rfl⟩

theorem Tb.isNilTr (w : World) : (Instr.typeAssert .nilIface 48 60 true).run Tryd.prog w = .ok (.tuple #[.pointer none, .bool false]) w := by kernel_rfl
theorem Tb.isNilCa (w : World) : (Instr.typeAssert .nilIface 48 61 true).run Tryd.prog w = .ok (.tuple #[.pointer none, .bool false]) w := by kernel_rfl
theorem Tb.isNilCl (w : World) : (Instr.typeAssert .nilIface 48 52 true).run Tryd.prog w = .ok (.tuple #[.int .i64 0, .bool false]) w := by kernel_rfl
theorem textNil_walk (w : World) : Calls Tryd.prog 36 #[.nilIface] w fun e w' => e = .returned (.string ⟨#[]⟩) ∧ w' = w := by
  have z1 := Tb.isNilTr
  have z2 := Tb.isNilCa
  have z3 := Tb.isNilCl
  go_enter Tryd.func36, Tryd.ntmps36
  go_wp2
  go_ret
  exact ⟨rfl, rfl⟩

theorem errCa_step (b : Nat) (n s : ByteArray) (v : Value) (w : World) (h0 : w.cell? ⟨b, 0, none⟩ = some (.string n)) (h1 : w.cell? ⟨b, 1, none⟩ = some v)
    (hn : n.size ≤ 200) (hs : s.size ≤ 100000)
    (ht : ∀ k, Calls Tryd.prog 36 #[v] (w.drewN k) fun e w' => e = .returned (.string s) ∧ ∃ m, w' = (w.drewN k).drewN m) :
    Calls Tryd.prog 42 #[.pointer (some ⟨b, 0, none⟩)] w fun e w' => e = .returned (.string ((n ++ ⟨#[58, 32]⟩) ++ s)) ∧ ∃ m, w' = w.drewN m := by
  have a1 := fun w => run_string_add_sum (P := Tryd.prog) w n ⟨#[58, 32]⟩ (by have : ByteArray.size ⟨#[58, 32]⟩ = 2 := rfl; omega)
  have a2 := fun w => run_string_add_sum (P := Tryd.prog) w (n ++ ⟨#[58, 32]⟩) s (by have : ByteArray.size ⟨#[58, 32]⟩ = 2 := rfl; rw [ByteArray.size_append]; omega)
  have HT := Lib.hid ht
  clear ht hn hs
  go_enter Tryd.func42, Tryd.ntmps42
  go_wp2_with fail
  go_quiet (first | (go_at_call 36; refine Calls.quiet_of (HT.out _)))
  go_wp2
  go_ret
  exact ⟨rfl, _, rfl⟩

theorem Chain.drewN {w : World} {c a : Int} {ns : List ByteArray} {v : Value} (h : Chain w c a v ns) (k : Nat) : Chain (w.drewN k) c a v ns := Chain.keep (w' := w.drewN k) (fun p v h => by simpa using h) h

theorem text_walk (c a : Int) : ∀ (ns : List ByteArray) (v : Value) (w : World), ns.length ≤ 100 → (∀ n ∈ ns, n.size ≤ 200) → Chain w c a v ns →
    Calls Tryd.prog 36 #[v] w fun e w' => e = .returned (.string (textOf c ns)) ∧ ∃ m, w' = w.drewN m := by
  intro ns
  have z1 := Tb.isTrTr
  have z2 := Tb.isCaTr
  have z3 := Tb.isCaCa
  induction ns with
  | nil =>
    rintro v w _ _ ⟨b, rfl, h0, h1⟩
    have H0 := Lib.hid h0
    clear h0 h1
    go_enter Tryd.func36, Tryd.ntmps36
    go_wp2_with fail
    refine (errTr_walk b c _ H0.out).mono ?_
    rintro e w' ⟨rfl, rfl⟩
    go_wp2
    go_ret
    exact ⟨rfl, 0, rfl⟩
  | cons n ns ih =>
    rintro v w hlen hsz ⟨b, v', rfl, h0, h1, hch⟩
    have hs := textOf_size c ns fun m hm => hsz m (List.mem_cons_of_mem _ hm)
    have HE := Lib.hid (errCa_step b n (textOf c ns) v' w h0 h1 (hsz n (List.mem_cons_self ..)) (by simp at hlen; omega)
      (fun k => ih v' _ (by simp at hlen; omega) (fun m hm => hsz m (List.mem_cons_of_mem _ hm)) (hch.drewN k)))
    clear h0 h1 hch hs ih hlen hsz
    go_enter Tryd.func36, Tryd.ntmps36
    go_wp2_with fail
    refine HE.out.mono ?_
    rintro e w' ⟨rfl, m, rfl⟩
    go_wp2
    go_ret
    exact ⟨rfl, _, rfl⟩
end Go.Proofs.YtnhnaallalgefaaDoor
