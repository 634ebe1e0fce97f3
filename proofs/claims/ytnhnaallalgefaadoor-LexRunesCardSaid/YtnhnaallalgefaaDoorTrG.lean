/- errors.As whole, at the three targets; trouble.Of, At, Is. Conditions: the type handle of error lies in its variable. -/
import Derived.Test.YtnhnaallalgefaaDoorTrC
import Derived.Test.YtnhnaallalgefaaDoorTrD
namespace Go.Proofs.YtnhnaallalgefaaDoor
open Go Go.RowKit Go.Extern.Stop Go.Stop Go.Extern Go.Proofs

theorem Pos.below {w w' : World} {c a : Int} {v : Value} {n : Nat} (h : Pos w c a v n) (hb : Below w.heap.size w w') : Pos w' c a v n := by
  rcases h with h | ⟨l, h1, h2⟩
  · exact .inl h
  · exact .inr ⟨l, h1, h2.below hb⟩

theorem asNil_walk (t : Value) (w : World) :
    Calls Tryd.prog 39 #[.nilIface, t] w fun e w' => e = .returned (.bool false) ∧ w' = w := by
  have h0 : ∀ w, (binOp .eql 48 .nilIface .nilIface).run Tryd.prog w = .ok (.bool true) w := fun w => by kernel_rfl
  go_enter Tryd.func39, Tryd.ntmps39
  go_wp2
  go_ret
  exact ⟨rfl, rfl⟩

set_option maxRecDepth 100000 in
set_option maxHeartbeats 1600000 in
/-- errors.As at a Class -/
theorem AsCl_walk (c a : Int) (v : Value) (n : Nat) (w : World) (he : ErrT w) (h : Pos w c a v n) (t : Addr) (old : Value) (ht : w.cell? t = some old) (hf : w.frozen? t = false) :
    Calls Tryd.prog 39 #[v, .iface 110 (.pointer (some t))] w fun e w' => e = .returned (.bool true) ∧ SetOne t (.int .i64 c) w w' := by
  have z0 := Tb.xValueOf
  have z1 := Tb.xType
  have z2 := Tb.xIsNil
  have z3 := Tb.xKind
  have z4 := Tb.xTElem
  have z5 := Tb.xImplements
  have z6 := Tb.methodKind
  have z7 := Tb.methodElem
  have z8 := Tb.methodImplements
  have z9 := Tb.eqlNil
  have z10 := Tb.kindPCl
  have z11 := Tb.kindCl
  have z12 := Tb.valueOfPCl
  have z13 := Tb.typePCl
  have z14 := Tb.elemPCl
  have z15 := Tb.implementsCl
  have hn0 : ∀ (t : TypeId) (v : Value) (w : World), (binOp .eql 20 (.iface t v) .nilIface).run Tryd.prog w = .ok (.bool false) w := fun t v w => by kernel_rfl
  have hlt := cell_lt ht
  have hc1 : (w.alloc (.cells #[.pointer (some t)] 110)).cell? ⟨w.heap.size, 0, none⟩ = some (.pointer (some t)) := by rw [World.cell?_alloc_at _ _ _ _ rfl]; rfl
  have HC2 : Hid (((w.alloc (.cells #[.pointer (some t)] 110)).alloc (.cells #[.pointer (some ⟨5, 110, none⟩), .pointer (some ⟨w.heap.size, 0, none⟩), .int .u64 150] 119)).cell? ⟨w.heap.size, 0, none⟩ = some (.pointer (some t))) := cell_al hc1 _
  have nil := Tb.isNilPCl ⟨w.heap.size, 0, none⟩ t ((w.alloc (.cells #[.pointer (some t)] 110)).alloc (.cells #[.pointer (some ⟨5, 110, none⟩), .pointer (some ⟨w.heap.size, 0, none⟩), .int .u64 150] 119)) HC2.out
  have hg := cell_al (cell_al he (.cells #[.pointer (some t)] 110)) (.cells #[.pointer (some ⟨5, 110, none⟩), .pointer (some ⟨w.heap.size, 0, none⟩), .int .u64 150] 119)
  have HT2 : Hid (((w.alloc (.cells #[.pointer (some t)] 110)).alloc (.cells #[.pointer (some ⟨5, 110, none⟩), .pointer (some ⟨w.heap.size, 0, none⟩), .int .u64 150] 119)).cell? t = some old) := cell_al (cell_al ht _) _
  have HF2 : Hid (((w.alloc (.cells #[.pointer (some t)] 110)).alloc (.cells #[.pointer (some ⟨5, 110, none⟩), .pointer (some ⟨w.heap.size, 0, none⟩), .int .u64 150] 119)).frozen? t = false) := by
    unfold Hid
    rw [frozen_al (by simp; omega), frozen_al hlt]; exact hf
  have HBB : Hid (Below w.heap.size w ((w.alloc (.cells #[.pointer (some t)] 110)).alloc (.cells #[.pointer (some ⟨5, 110, none⟩), .pointer (some ⟨w.heap.size, 0, none⟩), .int .u64 150] 119))) := ((Below.refl _ w).alloc (Nat.le_refl _) _).alloc (by simp) _
  have HSO : Hid (∀ x w', SetOne t x ((w.alloc (.cells #[.pointer (some t)] 110)).alloc (.cells #[.pointer (some ⟨5, 110, none⟩), .pointer (some ⟨w.heap.size, 0, none⟩), .int .u64 150] 119)) w' → SetOne t x w w') := fun x w' h => (h.alloc (by simp; omega)).alloc hlt
  have hv : ∃ t x, v = .iface t x := by
    rcases h with ⟨_, rfl⟩ | ⟨l, _, h⟩
    · exact ⟨_, _, rfl⟩
    · exact h.notNil
  obtain ⟨tv, xv, rfl⟩ := hv
  have HP := Lib.hid h
  clear h
  clear ht hf he hc1 hlt
  go_enter Tryd.func39, Tryd.ntmps39
  go_wp2_with fail
  refine (asCl_walk c a _ n _ (HP.out.below HBB.out) _ _ _ HC2.out HT2.out HF2.out).mono ?_
  rintro e w3 ⟨rfl, hs⟩
  have HS := Lib.hid (HSO.out _ _ hs)
  clear hs
  go_wp2
  go_ret
  exact ⟨rfl, HS.out⟩

set_option maxRecDepth 100000 in
set_option maxHeartbeats 1600000 in
/-- errors.As at a *Trouble, of a trouble -/
theorem AsTr_walk (c a : Int) (v : Value) (l : List ByteArray) (b : Nat) (w : World) (he : ErrT w) (h : Chain w c a v l) (hE : EndB w v l b) (t : Addr) (old : Value) (ht : w.cell? t = some old) (hf : w.frozen? t = false) :
    Calls Tryd.prog 39 #[v, .iface 64 (.pointer (some t))] w fun e w' => e = .returned (.bool true) ∧ SetOne t (.pointer (some ⟨b, 0, none⟩)) w w' := by
  have z0 := Tb.xValueOf
  have z1 := Tb.xType
  have z2 := Tb.xIsNil
  have z3 := Tb.xKind
  have z4 := Tb.xTElem
  have z5 := Tb.xImplements
  have z6 := Tb.methodKind
  have z7 := Tb.methodElem
  have z8 := Tb.methodImplements
  have z9 := Tb.eqlNil
  have z10 := Tb.kindPTr
  have z11 := Tb.kindTr
  have z12 := Tb.valueOfPTr
  have z13 := Tb.typePTr
  have z14 := Tb.elemPTr
  have z15 := Tb.implementsTr
  have hn0 : ∀ (t : TypeId) (v : Value) (w : World), (binOp .eql 20 (.iface t v) .nilIface).run Tryd.prog w = .ok (.bool false) w := fun t v w => by kernel_rfl
  have hlt := cell_lt ht
  have hc1 : (w.alloc (.cells #[.pointer (some t)] 64)).cell? ⟨w.heap.size, 0, none⟩ = some (.pointer (some t)) := by rw [World.cell?_alloc_at _ _ _ _ rfl]; rfl
  have HC2 : Hid (((w.alloc (.cells #[.pointer (some t)] 64)).alloc (.cells #[.pointer (some ⟨5, 64, none⟩), .pointer (some ⟨w.heap.size, 0, none⟩), .int .u64 150] 119)).cell? ⟨w.heap.size, 0, none⟩ = some (.pointer (some t))) := cell_al hc1 _
  have nil := Tb.isNilPTr ⟨w.heap.size, 0, none⟩ t ((w.alloc (.cells #[.pointer (some t)] 64)).alloc (.cells #[.pointer (some ⟨5, 64, none⟩), .pointer (some ⟨w.heap.size, 0, none⟩), .int .u64 150] 119)) HC2.out
  have hg := cell_al (cell_al he (.cells #[.pointer (some t)] 64)) (.cells #[.pointer (some ⟨5, 64, none⟩), .pointer (some ⟨w.heap.size, 0, none⟩), .int .u64 150] 119)
  have HT2 : Hid (((w.alloc (.cells #[.pointer (some t)] 64)).alloc (.cells #[.pointer (some ⟨5, 64, none⟩), .pointer (some ⟨w.heap.size, 0, none⟩), .int .u64 150] 119)).cell? t = some old) := cell_al (cell_al ht _) _
  have HF2 : Hid (((w.alloc (.cells #[.pointer (some t)] 64)).alloc (.cells #[.pointer (some ⟨5, 64, none⟩), .pointer (some ⟨w.heap.size, 0, none⟩), .int .u64 150] 119)).frozen? t = false) := by
    unfold Hid
    rw [frozen_al (by simp; omega), frozen_al hlt]; exact hf
  have HBB : Hid (Below w.heap.size w ((w.alloc (.cells #[.pointer (some t)] 64)).alloc (.cells #[.pointer (some ⟨5, 64, none⟩), .pointer (some ⟨w.heap.size, 0, none⟩), .int .u64 150] 119))) := ((Below.refl _ w).alloc (Nat.le_refl _) _).alloc (by simp) _
  have HSO : Hid (∀ x w', SetOne t x ((w.alloc (.cells #[.pointer (some t)] 64)).alloc (.cells #[.pointer (some ⟨5, 64, none⟩), .pointer (some ⟨w.heap.size, 0, none⟩), .int .u64 150] 119)) w' → SetOne t x w w') := fun x w' h => (h.alloc (by simp; omega)).alloc hlt
  obtain ⟨tv, xv, rfl⟩ := h.notNil
  have HP := Lib.hid h
  have HE := Lib.hid hE
  clear h hE
  clear ht hf he hc1 hlt
  go_enter Tryd.func39, Tryd.ntmps39
  go_wp2_with fail
  refine (asTr_walk c a _ l b _ (HP.out.below HBB.out) (HE.out.below HBB.out) _ _ _ HC2.out HT2.out HF2.out).mono ?_
  rintro e w3 ⟨rfl, hs⟩
  have HS := Lib.hid (HSO.out _ _ hs)
  clear hs
  go_wp2
  go_ret
  exact ⟨rfl, HS.out⟩

set_option maxRecDepth 100000 in
set_option maxHeartbeats 1600000 in
/-- errors.As at a *Trouble, of a class alone -/
theorem AsTr_class (c : Int) (w : World) (he : ErrT w)  (t : Addr) (old : Value) (ht : w.cell? t = some old) (hf : w.frozen? t = false) :
    Calls Tryd.prog 39 #[.iface 52 (.int .i64 c), .iface 64 (.pointer (some t))] w fun e w' => e = .returned (.bool false) ∧ Below w.heap.size w w' := by
  have z0 := Tb.xValueOf
  have z1 := Tb.xType
  have z2 := Tb.xIsNil
  have z3 := Tb.xKind
  have z4 := Tb.xTElem
  have z5 := Tb.xImplements
  have z6 := Tb.methodKind
  have z7 := Tb.methodElem
  have z8 := Tb.methodImplements
  have z9 := Tb.eqlNil
  have z10 := Tb.kindPTr
  have z11 := Tb.kindTr
  have z12 := Tb.valueOfPTr
  have z13 := Tb.typePTr
  have z14 := Tb.elemPTr
  have z15 := Tb.implementsTr
  have hn0 : ∀ (t : TypeId) (v : Value) (w : World), (binOp .eql 20 (.iface t v) .nilIface).run Tryd.prog w = .ok (.bool false) w := fun t v w => by kernel_rfl
  have hlt := cell_lt ht
  have hc1 : (w.alloc (.cells #[.pointer (some t)] 64)).cell? ⟨w.heap.size, 0, none⟩ = some (.pointer (some t)) := by rw [World.cell?_alloc_at _ _ _ _ rfl]; rfl
  have HC2 : Hid (((w.alloc (.cells #[.pointer (some t)] 64)).alloc (.cells #[.pointer (some ⟨5, 64, none⟩), .pointer (some ⟨w.heap.size, 0, none⟩), .int .u64 150] 119)).cell? ⟨w.heap.size, 0, none⟩ = some (.pointer (some t))) := cell_al hc1 _
  have nil := Tb.isNilPTr ⟨w.heap.size, 0, none⟩ t ((w.alloc (.cells #[.pointer (some t)] 64)).alloc (.cells #[.pointer (some ⟨5, 64, none⟩), .pointer (some ⟨w.heap.size, 0, none⟩), .int .u64 150] 119)) HC2.out
  have hg := cell_al (cell_al he (.cells #[.pointer (some t)] 64)) (.cells #[.pointer (some ⟨5, 64, none⟩), .pointer (some ⟨w.heap.size, 0, none⟩), .int .u64 150] 119)
  have HT2 : Hid (((w.alloc (.cells #[.pointer (some t)] 64)).alloc (.cells #[.pointer (some ⟨5, 64, none⟩), .pointer (some ⟨w.heap.size, 0, none⟩), .int .u64 150] 119)).cell? t = some old) := cell_al (cell_al ht _) _
  have HF2 : Hid (((w.alloc (.cells #[.pointer (some t)] 64)).alloc (.cells #[.pointer (some ⟨5, 64, none⟩), .pointer (some ⟨w.heap.size, 0, none⟩), .int .u64 150] 119)).frozen? t = false) := by
    unfold Hid
    rw [frozen_al (by simp; omega), frozen_al hlt]; exact hf
  have HBB : Hid (Below w.heap.size w ((w.alloc (.cells #[.pointer (some t)] 64)).alloc (.cells #[.pointer (some ⟨5, 64, none⟩), .pointer (some ⟨w.heap.size, 0, none⟩), .int .u64 150] 119))) := ((Below.refl _ w).alloc (Nat.le_refl _) _).alloc (by simp) _
  have HSO : Hid (∀ x w', SetOne t x ((w.alloc (.cells #[.pointer (some t)] 64)).alloc (.cells #[.pointer (some ⟨5, 64, none⟩), .pointer (some ⟨w.heap.size, 0, none⟩), .int .u64 150] 119)) w' → SetOne t x w w') := fun x w' h => (h.alloc (by simp; omega)).alloc hlt
  clear HT2 HF2 HC2 HSO
  clear ht hf he hc1 hlt
  go_enter Tryd.func39, Tryd.ntmps39
  go_wp2_with fail
  refine (asTr_class c _ _ _).mono ?_
  rintro e w3 ⟨rfl, hs⟩
  have HS := Lib.hid (HBB.out.trans (hs.mono (by simp; omega)))
  clear hs
  go_wp2
  go_ret
  exact ⟨rfl, HS.out⟩

set_option maxRecDepth 100000 in
set_option maxHeartbeats 1600000 in
/-- errors.As at a *Call, of a trouble that came through a function -/
theorem AsCa_walk (b : Nat) (w : World) (he : ErrT w)  (t : Addr) (old : Value) (ht : w.cell? t = some old) (hf : w.frozen? t = false) :
    Calls Tryd.prog 39 #[.iface 61 (.pointer (some ⟨b, 0, none⟩)), .iface 69 (.pointer (some t))] w fun e w' => e = .returned (.bool true) ∧ SetOne t (.pointer (some ⟨b, 0, none⟩)) w w' := by
  have z0 := Tb.xValueOf
  have z1 := Tb.xType
  have z2 := Tb.xIsNil
  have z3 := Tb.xKind
  have z4 := Tb.xTElem
  have z5 := Tb.xImplements
  have z6 := Tb.methodKind
  have z7 := Tb.methodElem
  have z8 := Tb.methodImplements
  have z9 := Tb.eqlNil
  have z10 := Tb.kindPCa
  have z11 := Tb.kindCa
  have z12 := Tb.valueOfPCa
  have z13 := Tb.typePCa
  have z14 := Tb.elemPCa
  have z15 := Tb.implementsCa
  have hn0 : ∀ (t : TypeId) (v : Value) (w : World), (binOp .eql 20 (.iface t v) .nilIface).run Tryd.prog w = .ok (.bool false) w := fun t v w => by kernel_rfl
  have hlt := cell_lt ht
  have hc1 : (w.alloc (.cells #[.pointer (some t)] 69)).cell? ⟨w.heap.size, 0, none⟩ = some (.pointer (some t)) := by rw [World.cell?_alloc_at _ _ _ _ rfl]; rfl
  have HC2 : Hid (((w.alloc (.cells #[.pointer (some t)] 69)).alloc (.cells #[.pointer (some ⟨5, 69, none⟩), .pointer (some ⟨w.heap.size, 0, none⟩), .int .u64 150] 119)).cell? ⟨w.heap.size, 0, none⟩ = some (.pointer (some t))) := cell_al hc1 _
  have nil := Tb.isNilPCa ⟨w.heap.size, 0, none⟩ t ((w.alloc (.cells #[.pointer (some t)] 69)).alloc (.cells #[.pointer (some ⟨5, 69, none⟩), .pointer (some ⟨w.heap.size, 0, none⟩), .int .u64 150] 119)) HC2.out
  have hg := cell_al (cell_al he (.cells #[.pointer (some t)] 69)) (.cells #[.pointer (some ⟨5, 69, none⟩), .pointer (some ⟨w.heap.size, 0, none⟩), .int .u64 150] 119)
  have HT2 : Hid (((w.alloc (.cells #[.pointer (some t)] 69)).alloc (.cells #[.pointer (some ⟨5, 69, none⟩), .pointer (some ⟨w.heap.size, 0, none⟩), .int .u64 150] 119)).cell? t = some old) := cell_al (cell_al ht _) _
  have HF2 : Hid (((w.alloc (.cells #[.pointer (some t)] 69)).alloc (.cells #[.pointer (some ⟨5, 69, none⟩), .pointer (some ⟨w.heap.size, 0, none⟩), .int .u64 150] 119)).frozen? t = false) := by
    unfold Hid
    rw [frozen_al (by simp; omega), frozen_al hlt]; exact hf
  have HBB : Hid (Below w.heap.size w ((w.alloc (.cells #[.pointer (some t)] 69)).alloc (.cells #[.pointer (some ⟨5, 69, none⟩), .pointer (some ⟨w.heap.size, 0, none⟩), .int .u64 150] 119))) := ((Below.refl _ w).alloc (Nat.le_refl _) _).alloc (by simp) _
  have HSO : Hid (∀ x w', SetOne t x ((w.alloc (.cells #[.pointer (some t)] 69)).alloc (.cells #[.pointer (some ⟨5, 69, none⟩), .pointer (some ⟨w.heap.size, 0, none⟩), .int .u64 150] 119)) w' → SetOne t x w w') := fun x w' h => (h.alloc (by simp; omega)).alloc hlt
  clear ht hf he hc1 hlt
  go_enter Tryd.func39, Tryd.ntmps39
  go_wp2_with fail
  refine (asCa_walk b _ _ _ _ HC2.out HT2.out HF2.out).mono ?_
  rintro e w3 ⟨rfl, hs⟩
  have HS := Lib.hid (HSO.out _ _ hs)
  clear hs
  go_wp2
  go_ret
  exact ⟨rfl, HS.out⟩

set_option maxRecDepth 100000 in
set_option maxHeartbeats 1600000 in
/-- errors.As at a *Call, of a trouble that came through none -/
theorem AsCa_none (c : Int) (b : Nat) (w : World) (he : ErrT w) (hb : w.cell? ⟨b, 0, none⟩ = some (.int .i64 c)) (t : Addr) (old : Value) (ht : w.cell? t = some old) (hf : w.frozen? t = false) :
    Calls Tryd.prog 39 #[.iface 60 (.pointer (some ⟨b, 0, none⟩)), .iface 69 (.pointer (some t))] w fun e w' => e = .returned (.bool false) ∧ Below w.heap.size w w' := by
  have z0 := Tb.xValueOf
  have z1 := Tb.xType
  have z2 := Tb.xIsNil
  have z3 := Tb.xKind
  have z4 := Tb.xTElem
  have z5 := Tb.xImplements
  have z6 := Tb.methodKind
  have z7 := Tb.methodElem
  have z8 := Tb.methodImplements
  have z9 := Tb.eqlNil
  have z10 := Tb.kindPCa
  have z11 := Tb.kindCa
  have z12 := Tb.valueOfPCa
  have z13 := Tb.typePCa
  have z14 := Tb.elemPCa
  have z15 := Tb.implementsCa
  have hn0 : ∀ (t : TypeId) (v : Value) (w : World), (binOp .eql 20 (.iface t v) .nilIface).run Tryd.prog w = .ok (.bool false) w := fun t v w => by kernel_rfl
  have hlt := cell_lt ht
  have hc1 : (w.alloc (.cells #[.pointer (some t)] 69)).cell? ⟨w.heap.size, 0, none⟩ = some (.pointer (some t)) := by rw [World.cell?_alloc_at _ _ _ _ rfl]; rfl
  have HC2 : Hid (((w.alloc (.cells #[.pointer (some t)] 69)).alloc (.cells #[.pointer (some ⟨5, 69, none⟩), .pointer (some ⟨w.heap.size, 0, none⟩), .int .u64 150] 119)).cell? ⟨w.heap.size, 0, none⟩ = some (.pointer (some t))) := cell_al hc1 _
  have nil := Tb.isNilPCa ⟨w.heap.size, 0, none⟩ t ((w.alloc (.cells #[.pointer (some t)] 69)).alloc (.cells #[.pointer (some ⟨5, 69, none⟩), .pointer (some ⟨w.heap.size, 0, none⟩), .int .u64 150] 119)) HC2.out
  have hg := cell_al (cell_al he (.cells #[.pointer (some t)] 69)) (.cells #[.pointer (some ⟨5, 69, none⟩), .pointer (some ⟨w.heap.size, 0, none⟩), .int .u64 150] 119)
  have HT2 : Hid (((w.alloc (.cells #[.pointer (some t)] 69)).alloc (.cells #[.pointer (some ⟨5, 69, none⟩), .pointer (some ⟨w.heap.size, 0, none⟩), .int .u64 150] 119)).cell? t = some old) := cell_al (cell_al ht _) _
  have HF2 : Hid (((w.alloc (.cells #[.pointer (some t)] 69)).alloc (.cells #[.pointer (some ⟨5, 69, none⟩), .pointer (some ⟨w.heap.size, 0, none⟩), .int .u64 150] 119)).frozen? t = false) := by
    unfold Hid
    rw [frozen_al (by simp; omega), frozen_al hlt]; exact hf
  have HBB : Hid (Below w.heap.size w ((w.alloc (.cells #[.pointer (some t)] 69)).alloc (.cells #[.pointer (some ⟨5, 69, none⟩), .pointer (some ⟨w.heap.size, 0, none⟩), .int .u64 150] 119))) := ((Below.refl _ w).alloc (Nat.le_refl _) _).alloc (by simp) _
  have HSO : Hid (∀ x w', SetOne t x ((w.alloc (.cells #[.pointer (some t)] 69)).alloc (.cells #[.pointer (some ⟨5, 69, none⟩), .pointer (some ⟨w.heap.size, 0, none⟩), .int .u64 150] 119)) w' → SetOne t x w w') := fun x w' h => (h.alloc (by simp; omega)).alloc hlt
  have HB0 := Lib.hid (cell_al (cell_al hb (.cells #[.pointer (some t)] 69)) (.cells #[.pointer (some ⟨5, 69, none⟩), .pointer (some ⟨w.heap.size, 0, none⟩), .int .u64 150] 119))
  clear HT2 HF2 HC2 HSO hb
  clear ht hf he hc1 hlt
  go_enter Tryd.func39, Tryd.ntmps39
  go_wp2_with fail
  refine (asCa_none c b _ HB0.out _ _).mono ?_
  rintro e w3 ⟨rfl, hs⟩
  have HS := Lib.hid (HBB.out.trans (hs.mono (by simp; omega)))
  clear hs
  go_wp2
  go_ret
  exact ⟨rfl, HS.out⟩
end Go.Proofs.YtnhnaallalgefaaDoor
