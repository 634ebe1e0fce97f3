/- slices.Clone at rows of one-cell elements, off the shelf. Conditions: as each theorem says. -/
import Derived.Test.YtdddmehchfnppaaDoorVec
import Derived.Shelf.SlGeneric
import Derived.Shelf.SlicesE.Clone
namespace Go.Proofs.YtdddmehchfnppaaDoor
open Go Go.RowKit Go.Proofs Go.Shelf Go.Lib

section
variable {P : Program} {ρ : Ren}
set_option maxHeartbeats 1000000 in
theorem clone_zero (L : SlLaysE0.n41 P ρ) (i0 : TypeInfo) (z : Value) (bytes : Nat) (hi : P.info? (ρ.t 23) = some i0) (hz0 : i0.zero = some z) (hz1 : i0.size = 1) (hz2 : i0.bytes = bytes) (hzs : z.cells.size = 1)
    (z23 : ∀ w, (Go.sizeOf (ρ.t 23)).run P w = .ok 1 w) (x : Addr) (c : Nat) (w : World) :
    Calls P (ρ.f 41) #[.slice (some x) 0 c] w fun e w' => ∃ v', e = .returned v' ∧ w'.ownsRow w.heap.size (ρ.t 23) 1 v' 0 [] ∧ Below w.heap.size w w' := by
  have mixed := L.mixed; have t4 := L.t4; have a4 := L.a4; have z4 := L.z4; have v4 := L.v4; have t22 := L.t22; have a22 := L.a22; have z22 := L.z22; have v22 := L.v22
  have q22 : ∀ (w : World) (a : Option Addr) (n c n' c' : Nat), (binOp .eql (ρ.t 22) (.slice a n c) (.slice none n' c')).run P w = .ok (.bool a.isNone) w := fun w a n c n' c' => Lib.run_eql_slice_nil w _ _ a n c n' c' L.t22
  have u22 : ∀ w, Sem.run P (underlying (ρ.t 22)) w = .ok (TypeDesc.slice (ρ.t 23)) w := run_underlying t22
  obtain ⟨_, _, FG⟩ := L.f41
  obtain ⟨n, hn⟩ : ∃ n : Nat, n = 0 := ⟨0, rfl⟩
  rw [← hn]
  have HN := Lib.hid hn
  clear hn
  go_enter FG, SlBodyN.n41_ntmps ρ
  go_wp2_with (at_builtin; refine wpList_append_own _ rfl _ _ (ρ.t 22) rfl w.heap.size (ρ.t 23) i0 z 1 bytes t22 hi hz0 hz1 hz2 hzs (by decide) _ _ _ rfl (World.ownsRow_made w #[] 0 (Nat.le_refl _) (Nat.zero_le _) (by simp)) x n c [] rfl ?qc1 ?qc2 ?qc3 ?qc4 ?qc5 ?qc6 ?_)
  case qc1 => rw [HN.out]; rfl
  case qc2 =>
    intro j u hj
    simp at hj
  case qc3 => intro u hu; cases hu
  case qc4 => rw [Nat.zero_add, HN.out]; exact Nat.zero_le _
  case qc5 => rw [Nat.zero_add, HN.out, Nat.zero_mul]; exact Nat.zero_le _
  case qc6 => simp
  intro v' w1 hown hgrow hnil
  go_wp2
  go_ret
  refine ⟨v', rfl, hown, ?_⟩
  exact ((Below.refl _ w).alloc (Nat.le_refl _) _).grown hgrow (by simp) (by intro k hk; simp [Value.ownBlock] at hk; omega)

theorem clone_reads (L : SlLaysE0.n41 P ρ) (z : Value) (bytes : Nat) (hinfo : (P.info? (ρ.t 23)).map (fun i => (i.zero, i.size, i.bytes)) = some (some z, 1, bytes)) (hzs : z.cells.size = 1)
    (z23 : ∀ w, (Go.sizeOf (ρ.t 23)).run P w = .ok 1 w) {w : World} {v : Value} {xs : List Value} (h : Reads1 w v xs) (hl : xs.length * bytes ≤ 140737488355328) (hl2 : xs.length ≤ 140737488355328) (h1 : ∀ u ∈ xs, u.oneCell' = true) :
    Calls P (ρ.f 41) #[v] w fun e w' => ∃ v', e = .returned v' ∧ w'.ownsRow w.heap.size (ρ.t 23) 1 v' xs.length xs ∧ Below w.heap.size w w' := by
  obtain ⟨i0, hi, hz0, hz1, hz2⟩ := info_parts hinfo
  rcases h with ⟨x, c, rfl, rfl⟩ | ⟨b, o, n, c, rfl, hn, hc⟩
  · cases x with
    | none =>
      refine (AnyE.slices_Clone_nil L 0 c w).mono ?_
      rintro e w' ⟨rfl, rfl⟩
      exact ⟨_, rfl, World.ownsRow_nil _ _ _ _, Below.refl _ _⟩
    | some x => exact clone_zero L i0 z bytes hi hz0 hz1 hz2 hzs z23 x c w
  · refine (AnyE.slices_Clone L i0 z 1 bytes hi hz0 hz1 hz2 hzs (by decide) z23 b o n c xs w (by omega) (by unfold maxLen; omega) (by rw [hn]; exact hl) ?_ h1).mono ?_
    · intro j u hj
      obtain ⟨hlt, rfl⟩ := List.getElem?_eq_some_iff.1 hj
      exact hc j hlt
    · rintro e w' ⟨v', rfl, ho, _, hb⟩
      rw [hn] at ho
      exact ⟨v', rfl, ho, hb⟩
end

theorem info_cl64 : (Tryd.prog.info? 2).map (fun i => (i.zero, i.size, i.bytes)) = some (some (.int .i64 0), 1, 8) := by kernel_rfl
def cl64_ren : Go.Shelf.Ren := ⟨fun | 41 => 58 | n => n, fun | 22 => 23 | 23 => 2 | 4 => 4 | n => n, fun n => n⟩
theorem cl64_lays : SlLaysE0.n41 Tryd.prog cl64_ren where
  mixed := by kernel_rfl
  f41 := ⟨"slices.Clone[[]int64,int64]", by decide, Tryd.func58.trans (congrArg some (by kernel_rfl))⟩
  t4 := Tryd.underlying4
  a4 := Tryd.isAgg4
  z4 := Tryd.sizeOf4
  v4 := Tryd.zeroValue4
  t22 := Tryd.underlying23
  a22 := Tryd.isAgg23
  z22 := Tryd.sizeOf23
  v22 := Tryd.zeroValue23
theorem cl64_any {w : World} {v : Value} {xs : List Value} (h : Reads1 w v xs) (hl : xs.length * 8 ≤ 140737488355328) (h1 : ∀ u ∈ xs, u.oneCell' = true) :
    Calls Tryd.prog 58 #[v] w fun e w' => ∃ v', e = .returned v' ∧ Own1 w' w.heap.size 2 v' xs ∧ Below w.heap.size w w' :=
  clone_reads cl64_lays (.int .i64 0) 8 info_cl64 rfl Tryd.sizeOf2 h (by omega) (by omega) h1

theorem info_cl8 : (Tryd.prog.info? 94).map (fun i => (i.zero, i.size, i.bytes)) = some (some (.int .i8 0), 1, 1) := by kernel_rfl
def cl8_ren : Go.Shelf.Ren := ⟨fun | 41 => 103 | n => n, fun | 22 => 31 | 23 => 94 | 4 => 4 | n => n, fun n => n⟩
theorem cl8_lays : SlLaysE0.n41 Tryd.prog cl8_ren where
  mixed := by kernel_rfl
  f41 := ⟨"slices.Clone[[]int8,int8]", by decide, Tryd.func103.trans (congrArg some (by kernel_rfl))⟩
  t4 := Tryd.underlying4
  a4 := Tryd.isAgg4
  z4 := Tryd.sizeOf4
  v4 := Tryd.zeroValue4
  t22 := Tryd.underlying31
  a22 := Tryd.isAgg31
  z22 := Tryd.sizeOf31
  v22 := Tryd.zeroValue31
theorem cl8_any {w : World} {v : Value} {xs : List Value} (h : Reads1 w v xs) (hl : xs.length * 8 ≤ 140737488355328) (h1 : ∀ u ∈ xs, u.oneCell' = true) :
    Calls Tryd.prog 103 #[v] w fun e w' => ∃ v', e = .returned v' ∧ Own1 w' w.heap.size 94 v' xs ∧ Below w.heap.size w w' :=
  clone_reads cl8_lays (.int .i8 0) 1 info_cl8 rfl Tryd.sizeOf94 h (by omega) (by omega) h1

theorem info_clR : (Tryd.prog.info? 21).map (fun i => (i.zero, i.size, i.bytes)) = some (some (.int .i32 0), 1, 4) := by kernel_rfl
def clR_ren : Go.Shelf.Ren := ⟨fun | 41 => 42 | n => n, fun | 22 => 32 | 23 => 21 | 4 => 4 | n => n, fun n => n⟩
theorem clR_lays : SlLaysE0.n41 Tryd.prog clR_ren where
  mixed := by kernel_rfl
  f41 := ⟨"slices.Clone[[]rune,rune]", by decide, Tryd.func42.trans (congrArg some (by kernel_rfl))⟩
  t4 := Tryd.underlying4
  a4 := Tryd.isAgg4
  z4 := Tryd.sizeOf4
  v4 := Tryd.zeroValue4
  t22 := Tryd.underlying32
  a22 := Tryd.isAgg32
  z22 := Tryd.sizeOf32
  v22 := Tryd.zeroValue32
theorem clR_any {w : World} {v : Value} {xs : List Value} (h : Reads1 w v xs) (hl : xs.length * 8 ≤ 140737488355328) (h1 : ∀ u ∈ xs, u.oneCell' = true) :
    Calls Tryd.prog 42 #[v] w fun e w' => ∃ v', e = .returned v' ∧ Own1 w' w.heap.size 21 v' xs ∧ Below w.heap.size w w' :=
  clone_reads clR_lays (.int .i32 0) 4 info_clR rfl Tryd.sizeOf21 h (by omega) (by omega) h1

def clA_ren : Go.Shelf.Ren := ⟨fun | 41 => 43 | n => n, fun | 22 => 33 | 23 => 79 | 4 => 4 | n => n, fun n => n⟩
theorem clA_lays : SlLaysE0.n41 Tryd.prog clA_ren where
  mixed := by kernel_rfl
  f41 := ⟨"slices.Clone[[]rebus/vec.Array,rebus/vec.Array]", by decide, Tryd.func43.trans (congrArg some (by kernel_rfl))⟩
  t4 := Tryd.underlying4
  a4 := Tryd.isAgg4
  z4 := Tryd.sizeOf4
  v4 := Tryd.zeroValue4
  t22 := Tryd.underlying33
  a22 := Tryd.isAgg33
  z22 := Tryd.sizeOf33
  v22 := Tryd.zeroValue33
theorem clA_nil (c : Nat) (w : World) : Calls Tryd.prog 43 #[.slice none 0 c] w fun e w' => e = .returned (.slice none 0 0) ∧ w' = w := AnyE.slices_Clone_nil clA_lays 0 c w

end Go.Proofs.YtdddmehchfnppaaDoor
