/- errors.As by its contracts, at the three targets of package trouble. Conditions: as each theorem says. -/
import Derived.Test.YtnhnaallalgefaaDoorTrB
namespace Go.Proofs.YtnhnaallalgefaaDoor
open Go Go.RowKit Go.Extern.Stop Go.Stop Go.Extern Go.Proofs

theorem cell_al {w : World} {p : Addr} {v : Value} (h : w.cell? p = some v) (o : Obj) : (w.alloc o).cell? p = some v := by
  rw [World.cell?_alloc_lt _ _ p (cell_lt h)]; exact h
theorem frozen_al {w : World} {p : Addr} (h : p.block < w.heap.size) (o : Obj) : (w.alloc o).frozen? p = w.frozen? p := World.frozen?_alloc_old _ _ p (Nat.ne_of_lt h)

/-- the trouble at the end of a chain lies in block b -/
def EndB (w : World) : Value → List ByteArray → Nat → Prop
  | v, [], b => v = .iface 60 (.pointer (some ⟨b, 0, none⟩))
  | v, _ :: ns, b => ∃ b0 v', v = .iface 61 (.pointer (some ⟨b0, 0, none⟩)) ∧ w.cell? ⟨b0, 1, none⟩ = some v' ∧ EndB w v' ns b

theorem EndB.keep {w w' : World} {b : Nat} (hb : ∀ p v, w.cell? p = some v → w'.cell? p = some v) : ∀ {ns : List ByteArray} {v : Value}, EndB w v ns b → EndB w' v ns b
  | [], _, h => h
  | _ :: _, _, ⟨b0, v', h1, h2, h3⟩ => ⟨b0, v', h1, hb _ _ h2, EndB.keep hb h3⟩

theorem EndB.below {w w' : World} {b : Nat} {ns : List ByteArray} {v : Value} (h : EndB w v ns b) (hb : Below w.heap.size w w') : EndB w' v ns b :=
  h.keep fun p v hp => by rw [hb.cell (cell_lt hp)]; exact hp

theorem Chain.end_ {w : World} {c a : Int} : ∀ {ns : List ByteArray} {v : Value}, Chain w c a v ns → ∃ b, EndB w v ns b ∧ w.cell? ⟨b, 0, none⟩ = some (.int .i64 c) ∧ w.cell? ⟨b, 1, none⟩ = some (.int .i64 a)
  | [], _, ⟨b, h1, h2, h3⟩ => ⟨b, h1, h2, h3⟩
  | _ :: _, _, ⟨b0, v', h1, h2, h3, h4⟩ => by
    obtain ⟨b, e1, e2, e3⟩ := Chain.end_ h4
    exact ⟨b, ⟨b0, v', h1, h3, e1⟩, e2, e3⟩

/-- one cell is set, all else of before is as it was -/
structure SetOne (t : Addr) (v : Value) (w w' : World) : Prop where
  cell : w'.cell? t = some v
  size : w.heap.size ≤ w'.heap.size
  other : ∀ p, p.block < w.heap.size → p.block ≠ t.block → w'.cell? p = w.cell? p
  frz : ∀ p : Addr, p.block < w.heap.size → w'.frozen? p = w.frozen? p
  below : ∀ B w0, B ≤ t.block → Below B w0 w → Below B w0 w'

theorem SetOne.alloc {t : Addr} {v : Value} {w w' : World} {o : Obj} (h : SetOne t v (w.alloc o) w') (ht : t.block < w.heap.size) : SetOne t v w w' :=
  ⟨h.cell, Nat.le_trans (by simp) h.size, fun p hp hne => by rw [h.other p (by simp; omega) hne, World.cell?_alloc_lt _ _ p hp],
    fun p hp => by rw [h.frz p (by simp; omega), frozen_al hp], fun B w0 hB hb => h.below B w0 hB (hb.alloc (by omega) _)⟩

theorem SetOne.mk1 {t : Addr} {v old : Value} {w : World} (o : Obj) (ht : w.cell? t = some old) : SetOne t v w ((w.alloc o).setCell t v) := by
  have hlt := cell_lt ht
  have hta := cell_al ht o
  refine ⟨?_, ?_, ?_, ?_, ?_⟩
  · exact World.cell?_setCell_same' _ _ _ (by rw [hta]; rfl)
  · simp
  · intro p hp hne
    rw [World.cell?_setCell_other _ _ _ _ (fun e => hne (by rw [e])), World.cell?_alloc_lt _ _ p hp]
  · intro p hp
    rw [World.frozen?_setCell, frozen_al hp]
  · intro B w0 hB hb
    exact ((hb.alloc (by omega) _).setCell hB _)

theorem Tb.xTypeOf (args : Array Value) (w : World) : (callFunc 74 args).run Tryd.prog w = ((ReflectliteType.typeOf args).run Tryd.prog w).andThen fun v w2 => Result.ok (Next.value v) w2 := @run_callFunc_extern Tryd.prog 74 _ ReflectliteType.typeOf Tryd.func74 (by kernel_rfl) (by kernel_rfl) (by kernel_rfl) (by kernel_rfl) args w
theorem Tb.xValueOf (args : Array Value) (w : World) : (callFunc 76 args).run Tryd.prog w = (((fun args => ReflectliteValue.unpack (args.getD 0 (.tuple #[]))) args).run Tryd.prog w).andThen fun v w2 => Result.ok (Next.value v) w2 := @run_callFunc_extern Tryd.prog 76 _ (fun args => ReflectliteValue.unpack (args.getD 0 (.tuple #[]))) Tryd.func76 (by kernel_rfl) (by kernel_rfl) (by kernel_rfl) (by kernel_rfl) args w
theorem Tb.xType (args : Array Value) (w : World) : (callFunc 77 args).run Tryd.prog w = (((ReflectliteValue.methodAny (ReflectliteValue.valueError "reflectlite.Value.Type" 0) (fun t _ _ _ => ReflectliteType.toType t)) args).run Tryd.prog w).andThen fun v w2 => Result.ok (Next.value v) w2 := @run_callFunc_extern Tryd.prog 77 _ (ReflectliteValue.methodAny (ReflectliteValue.valueError "reflectlite.Value.Type" 0) (fun t _ _ _ => ReflectliteType.toType t)) Tryd.func77 (by kernel_rfl) (by kernel_rfl) (by kernel_rfl) (by kernel_rfl) args w
theorem Tb.xIsNil (args : Array Value) (w : World) : (callFunc 78 args).run Tryd.prog w = (((ReflectliteValue.method (ReflectliteValue.valueError "reflectlite.Value.IsNil" 0) ReflectliteValue.isNil) args).run Tryd.prog w).andThen fun v w2 => Result.ok (Next.value v) w2 := @run_callFunc_extern Tryd.prog 78 _ (ReflectliteValue.method (ReflectliteValue.valueError "reflectlite.Value.IsNil" 0) ReflectliteValue.isNil) Tryd.func78 (by kernel_rfl) (by kernel_rfl) (by kernel_rfl) (by kernel_rfl) args w
theorem Tb.xKind (args : Array Value) (w : World) : (callFunc 162 args).run Tryd.prog w = (((ReflectliteType.abiMethod fun t => do pure (.int .u8 (← Rtype.kind t))) args).run Tryd.prog w).andThen fun v w2 => Result.ok (Next.value v) w2 := @run_callFunc_extern Tryd.prog 162 _ (ReflectliteType.abiMethod fun t => do pure (.int .u8 (← Rtype.kind t))) Tryd.func162 (by kernel_rfl) (by kernel_rfl) (by kernel_rfl) (by kernel_rfl) args w
theorem Tb.xTElem (args : Array Value) (w : World) : (callFunc 171 args).run Tryd.prog w = (((ReflectliteType.method ReflectliteType.elem) args).run Tryd.prog w).andThen fun v w2 => Result.ok (Next.value v) w2 := @run_callFunc_extern Tryd.prog 171 _ (ReflectliteType.method ReflectliteType.elem) Tryd.func171 (by kernel_rfl) (by kernel_rfl) (by kernel_rfl) (by kernel_rfl) args w
theorem Tb.xImplements (args : Array Value) (w : World) : (callFunc 172 args).run Tryd.prog w = (((ReflectliteType.relation "Implements" ReflectliteType.implements_) args).run Tryd.prog w).andThen fun v w2 => Result.ok (Next.value v) w2 := @run_callFunc_extern Tryd.prog 172 _ (ReflectliteType.relation "Implements" ReflectliteType.implements_) Tryd.func172 (by kernel_rfl) (by kernel_rfl) (by kernel_rfl) (by kernel_rfl) args w
theorem Tb.xAssignableTo (args : Array Value) (w : World) : (callFunc 169 args).run Tryd.prog w = (((ReflectliteType.relation "AssignableTo" ReflectliteType.assignableTo) args).run Tryd.prog w).andThen fun v w2 => Result.ok (Next.value v) w2 := @run_callFunc_extern Tryd.prog 169 _ (ReflectliteType.relation "AssignableTo" ReflectliteType.assignableTo) Tryd.func169 (by kernel_rfl) (by kernel_rfl) (by kernel_rfl) (by kernel_rfl) args w
theorem Tb.xVElem (args : Array Value) (w : World) : (callFunc 97 args).run Tryd.prog w = (((ReflectliteValue.method (ReflectliteValue.valueError "reflectlite.Value.Elem" 0) ReflectliteValue.elem) args).run Tryd.prog w).andThen fun v w2 => Result.ok (Next.value v) w2 := @run_callFunc_extern Tryd.prog 97 _ (ReflectliteValue.method (ReflectliteValue.valueError "reflectlite.Value.Elem" 0) ReflectliteValue.elem) Tryd.func97 (by kernel_rfl) (by kernel_rfl) (by kernel_rfl) (by kernel_rfl) args w
theorem Tb.xSet (args : Array Value) (w : World) : (callFunc 98 args).run Tryd.prog w = ((ReflectliteValue.set args).run Tryd.prog w).andThen fun v w2 => Result.ok (Next.value v) w2 := @run_callFunc_extern Tryd.prog 98 _ ReflectliteValue.set Tryd.func98 (by kernel_rfl) (by kernel_rfl) (by kernel_rfl) (by kernel_rfl) args w

set_option maxRecDepth 100000 in
set_option maxHeartbeats 1600000 in
/-- errors.as at a Class: always found -/
theorem asCl_walk (c a : Int) (v : Value) (n : Nat)  (w : World) (h : Pos w c a v n) (vb : Nat) (t : Addr) (old : Value) (hv : w.cell? ⟨vb, 0, none⟩ = some (.pointer (some t))) (ht : w.cell? t = some old) (hf : w.frozen? t = false) :
    Calls Tryd.prog 79 #[v, .iface 110 (.pointer (some t)), .agg #[.pointer (some ⟨5, 110, none⟩), .pointer (some ⟨vb, 0, none⟩), .int .u64 150], .iface 145 (.agg #[.pointer (some ⟨5, 52, none⟩)])] w fun e w' => e = .returned (.bool true) ∧ SetOne t (.int .i64 c) w w' := by
  have z0 := Tb.xTypeOf
  have z1 := Tb.xAssignableTo
  have z2 := Tb.xVElem
  have z3 := Tb.xValueOf
  have z4 := Tb.xSet
  have z5 := Tb.methodAssignableTo
  have z6 := Tb.typeOfCl
  have z7 := Tb.typeOfTr
  have z8 := Tb.typeOfCa
  have z9 := Tb.noAsCl
  have z10 := Tb.noAsTr
  have z11 := Tb.noAsCa
  have z12 := Tb.noUnwrapCl
  have z13 := Tb.hasUnwrapTr
  have z14 := Tb.hasUnwrapCa
  have z15 := Tb.noUnwrapsCl
  have z16 := Tb.methodUnwrapTr
  have z17 := Tb.methodUnwrapCa
  have z18 := Tb.eqlNil
  have z19 := Tb.valueOfCl
  have z20 := Tb.assignClCl
  have z21 := Tb.assignTrCl
  have z22 := Tb.assignCaCl
  have el := Tb.elemVPCl ⟨vb, 0, none⟩ t (w.alloc (.cells #[.pointer (some ⟨5, 110, none⟩), .pointer (some ⟨vb, 0, none⟩), .int .u64 150] 119)) (cell_al hv _)
  have st := Tb.setCl t ⟨w.heap.size + 1, 0, none⟩ c old ((w.alloc (.cells #[.pointer (some ⟨5, 110, none⟩), .pointer (some ⟨vb, 0, none⟩), .int .u64 150] 119)).alloc (.cells #[.int .i64 c] 52)) (by rw [World.cell?_alloc_at _ _ _ _ (by simp)]; rfl) (cell_al (cell_al ht _) _)
    (by rw [frozen_al (by have := cell_lt ht; simp; omega), frozen_al (cell_lt ht)]; exact hf)
  have HF : Hid (SetOne t (.int .i64 c) w (((w.alloc (.cells #[.pointer (some ⟨5, 110, none⟩), .pointer (some ⟨vb, 0, none⟩), .int .u64 150] 119)).alloc (.cells #[.int .i64 c] 52)).setCell t (.int .i64 c))) :=
    SetOne.alloc (SetOne.mk1 _ (cell_al ht _)) (cell_lt ht)
  have HP := Lib.hid h
  clear h hv ht hf
  go_enter Tryd.func79, Tryd.ntmps79
  go_wp2
  go_loop [0] (fun v => ∃ n, Pos w c a v n) (fun v => posN w c a v)
  case atStart => exact ⟨n, HP.out⟩
  case round =>
    obtain ⟨m, hm⟩ := hrel
    have HM := Lib.hid hm
    clear hm
    rcases HM.out with ⟨hm0, rfl⟩ | ⟨l, hl, hch⟩
    · clear hm0
      go_wp2
      go_ret
      exact ⟨rfl, HF.out⟩
    · clear el st
      cases l with
      | nil =>
        obtain ⟨b, rfl, hc0, hc1⟩ := hch
        have HC0 := Lib.hid hc0
        clear hc0 hc1
        go_wp2_with fail
        refine (unwrapTr_walk b c _ (cell_al HC0.out _)).mono ?_
        rintro e w' ⟨rfl, rfl⟩
        go_wp2
        go_round
        case rel => exact ⟨0, .inl ⟨rfl, rfl⟩⟩
        case measure =>
          have e1 := posN_eq HM.out
          have e2 := posN_eq (w := w) (c := c) (a := a) (v := .iface 52 (.int .i64 c)) (n := 0) (.inl ⟨rfl, rfl⟩)
          show posN w c a (.iface 52 (.int .i64 c)) < posN w c a (.iface 60 (.pointer (some ⟨b, 0, none⟩)))
          rw [e1, e2]; omega
      | cons y l =>
        obtain ⟨b, v', rfl, hc0, hc1, hch'⟩ := hch
        obtain ⟨t0, x, rfl⟩ := hch'.notNil
        have HC1 := Lib.hid hc1
        have HP' : Hid (Pos w c a (.iface t0 x) (l.length + 1)) := .inr ⟨l, rfl, hch'⟩
        clear hc0 hc1 hch'
        go_wp2_with fail
        refine (unwrapCa_walk b _ _ (cell_al HC1.out _)).mono ?_
        rintro e w' ⟨rfl, rfl⟩
        go_wp2
        go_round
        case rel => exact ⟨l.length + 1, HP'.out⟩
        case measure =>
          have e1 := posN_eq HM.out
          have e2 := posN_eq HP'.out
          show posN w c a (.iface t0 x) < posN w c a (.iface 61 (.pointer (some ⟨b, 0, none⟩)))
          rw [e1, e2]; simp at hl; omega

set_option maxRecDepth 100000 in
set_option maxHeartbeats 1600000 in
/-- errors.as at a *Trouble, of a trouble: found -/
theorem asTr_walk (c a : Int) (v : Value) (l : List ByteArray) (b : Nat) (w : World) (h : Chain w c a v l) (hE : EndB w v l b) (vb : Nat) (t : Addr) (old : Value) (hv : w.cell? ⟨vb, 0, none⟩ = some (.pointer (some t))) (ht : w.cell? t = some old) (hf : w.frozen? t = false) :
    Calls Tryd.prog 79 #[v, .iface 64 (.pointer (some t)), .agg #[.pointer (some ⟨5, 64, none⟩), .pointer (some ⟨vb, 0, none⟩), .int .u64 150], .iface 145 (.agg #[.pointer (some ⟨5, 60, none⟩)])] w fun e w' => e = .returned (.bool true) ∧ SetOne t (.pointer (some ⟨b, 0, none⟩)) w w' := by
  have z0 := Tb.xTypeOf
  have z1 := Tb.xAssignableTo
  have z2 := Tb.xVElem
  have z3 := Tb.xValueOf
  have z4 := Tb.xSet
  have z5 := Tb.methodAssignableTo
  have z6 := Tb.typeOfCl
  have z7 := Tb.typeOfTr
  have z8 := Tb.typeOfCa
  have z9 := Tb.noAsCl
  have z10 := Tb.noAsTr
  have z11 := Tb.noAsCa
  have z12 := Tb.noUnwrapCl
  have z13 := Tb.hasUnwrapTr
  have z14 := Tb.hasUnwrapCa
  have z15 := Tb.noUnwrapsCl
  have z16 := Tb.methodUnwrapTr
  have z17 := Tb.methodUnwrapCa
  have z18 := Tb.eqlNil
  have z19 := Tb.valueOfTr
  have z20 := Tb.assignTrTr
  have z21 := Tb.assignCaTr
  have el := Tb.elemVPTr ⟨vb, 0, none⟩ t (w.alloc (.cells #[.pointer (some ⟨5, 64, none⟩), .pointer (some ⟨vb, 0, none⟩), .int .u64 150] 119)) (cell_al hv _)
  have st := Tb.setTr t ⟨w.heap.size + 1, 0, none⟩ ⟨b, 0, none⟩ old ((w.alloc (.cells #[.pointer (some ⟨5, 64, none⟩), .pointer (some ⟨vb, 0, none⟩), .int .u64 150] 119)).alloc (.cells #[.pointer (some ⟨b, 0, none⟩)] 60)) (by rw [World.cell?_alloc_at _ _ _ _ (by simp)]; rfl) (cell_al (cell_al ht _) _)
    (by rw [frozen_al (by have := cell_lt ht; simp; omega), frozen_al (cell_lt ht)]; exact hf)
  have HF : Hid (SetOne t (.pointer (some ⟨b, 0, none⟩)) w (((w.alloc (.cells #[.pointer (some ⟨5, 64, none⟩), .pointer (some ⟨vb, 0, none⟩), .int .u64 150] 119)).alloc (.cells #[.pointer (some ⟨b, 0, none⟩)] 60)).setCell t (.pointer (some ⟨b, 0, none⟩)))) :=
    SetOne.alloc (SetOne.mk1 _ (cell_al ht _)) (cell_lt ht)
  have HP := Lib.hid h
  have HE := Lib.hid hE
  clear h hE hv ht hf
  go_enter Tryd.func79, Tryd.ntmps79
  go_wp2
  go_loop [0] (fun v => ∃ l, Chain w c a v l ∧ EndB w v l b) (fun v => posN w c a v)
  case atStart => exact ⟨l, HP.out, HE.out⟩
  case round =>
    obtain ⟨l, hch, hend⟩ := hrel
    have HM := Lib.hid hch
    cases l with
    | nil =>
      obtain rfl := hend
      clear hch
      go_wp2
      go_ret
      exact ⟨rfl, HF.out⟩
    | cons y l =>
      clear el st
      obtain ⟨b1, v', rfl, hc0, hc1, hch'⟩ := hch
      obtain ⟨b2, v2, hv1, hv2, hend'⟩ := hend
      obtain rfl : b1 = b2 := by simpa using hv1
      obtain rfl : v' = v2 := Option.some.inj (hc1.symm.trans hv2)
      obtain ⟨t0, x, rfl⟩ := hch'.notNil
      have HE' := Lib.hid hend'
      have HC1 := Lib.hid hc1
      have HP' := Lib.hid hch'
      clear hc0 hc1 hch' hv1 hv2 hend'
      go_wp2_with fail
      refine (unwrapCa_walk b1 _ _ (cell_al HC1.out _)).mono ?_
      rintro e w' ⟨rfl, rfl⟩
      go_wp2
      go_round
      case rel => exact ⟨l, HP'.out, HE'.out⟩
      case measure =>
        have e1 := posN_eq (.inr ⟨_, rfl, HM.out⟩)
        have e2 := posN_eq (.inr ⟨_, rfl, HP'.out⟩)
        show posN w c a (.iface t0 x) < posN w c a (.iface 61 (.pointer (some ⟨b1, 0, none⟩)))
        rw [e1, e2]; simp

set_option maxRecDepth 100000 in
set_option maxHeartbeats 1600000 in
/-- errors.as at a *Trouble, of a class alone: not found -/
theorem asTr_class (c : Int)  (w : World) (vb : Nat) (t : Addr) :
    Calls Tryd.prog 79 #[.iface 52 (.int .i64 c), .iface 64 (.pointer (some t)), .agg #[.pointer (some ⟨5, 64, none⟩), .pointer (some ⟨vb, 0, none⟩), .int .u64 150], .iface 145 (.agg #[.pointer (some ⟨5, 60, none⟩)])] w fun e w' => e = .returned (.bool false) ∧ Below w.heap.size w w' := by
  have z0 := Tb.xTypeOf
  have z1 := Tb.xAssignableTo
  have z2 := Tb.xVElem
  have z3 := Tb.xValueOf
  have z4 := Tb.xSet
  have z5 := Tb.methodAssignableTo
  have z6 := Tb.typeOfCl
  have z7 := Tb.typeOfTr
  have z8 := Tb.typeOfCa
  have z9 := Tb.noAsCl
  have z10 := Tb.noAsTr
  have z11 := Tb.noAsCa
  have z12 := Tb.noUnwrapCl
  have z13 := Tb.hasUnwrapTr
  have z14 := Tb.hasUnwrapCa
  have z15 := Tb.noUnwrapsCl
  have z16 := Tb.methodUnwrapTr
  have z17 := Tb.methodUnwrapCa
  have z18 := Tb.eqlNil
  have z19 := Tb.assignClTr
  go_enter Tryd.func79, Tryd.ntmps79
  go_wp2
  refine wp_loop_rounds 1 ?_
  rw [rounds_succ]
  go_wp2
  go_ret
  exact ⟨rfl, (Below.refl _ w).alloc (Nat.le_refl _) _⟩

set_option maxRecDepth 100000 in
set_option maxHeartbeats 1600000 in
/-- errors.as at a *Call, of a trouble that came through a function: the outermost -/
theorem asCa_walk (b : Nat) (w : World) (vb : Nat) (t : Addr) (old : Value) (hv : w.cell? ⟨vb, 0, none⟩ = some (.pointer (some t))) (ht : w.cell? t = some old) (hf : w.frozen? t = false) :
    Calls Tryd.prog 79 #[.iface 61 (.pointer (some ⟨b, 0, none⟩)), .iface 69 (.pointer (some t)), .agg #[.pointer (some ⟨5, 69, none⟩), .pointer (some ⟨vb, 0, none⟩), .int .u64 150], .iface 145 (.agg #[.pointer (some ⟨5, 61, none⟩)])] w fun e w' => e = .returned (.bool true) ∧ SetOne t (.pointer (some ⟨b, 0, none⟩)) w w' := by
  have z0 := Tb.xTypeOf
  have z1 := Tb.xAssignableTo
  have z2 := Tb.xVElem
  have z3 := Tb.xValueOf
  have z4 := Tb.xSet
  have z5 := Tb.methodAssignableTo
  have z6 := Tb.typeOfCl
  have z7 := Tb.typeOfTr
  have z8 := Tb.typeOfCa
  have z9 := Tb.noAsCl
  have z10 := Tb.noAsTr
  have z11 := Tb.noAsCa
  have z12 := Tb.noUnwrapCl
  have z13 := Tb.hasUnwrapTr
  have z14 := Tb.hasUnwrapCa
  have z15 := Tb.noUnwrapsCl
  have z16 := Tb.methodUnwrapTr
  have z17 := Tb.methodUnwrapCa
  have z18 := Tb.eqlNil
  have z19 := Tb.valueOfCa
  have z20 := Tb.assignCaCa
  have el := Tb.elemVPCa ⟨vb, 0, none⟩ t (w.alloc (.cells #[.pointer (some ⟨5, 69, none⟩), .pointer (some ⟨vb, 0, none⟩), .int .u64 150] 119)) (cell_al hv _)
  have st := Tb.setCa t ⟨w.heap.size + 1, 0, none⟩ ⟨b, 0, none⟩ old ((w.alloc (.cells #[.pointer (some ⟨5, 69, none⟩), .pointer (some ⟨vb, 0, none⟩), .int .u64 150] 119)).alloc (.cells #[.pointer (some ⟨b, 0, none⟩)] 61)) (by rw [World.cell?_alloc_at _ _ _ _ (by simp)]; rfl) (cell_al (cell_al ht _) _)
    (by rw [frozen_al (by have := cell_lt ht; simp; omega), frozen_al (cell_lt ht)]; exact hf)
  have HF : Hid (SetOne t (.pointer (some ⟨b, 0, none⟩)) w (((w.alloc (.cells #[.pointer (some ⟨5, 69, none⟩), .pointer (some ⟨vb, 0, none⟩), .int .u64 150] 119)).alloc (.cells #[.pointer (some ⟨b, 0, none⟩)] 61)).setCell t (.pointer (some ⟨b, 0, none⟩)))) :=
    SetOne.alloc (SetOne.mk1 _ (cell_al ht _)) (cell_lt ht)
  clear hv ht hf
  go_enter Tryd.func79, Tryd.ntmps79
  go_wp2
  refine wp_loop_rounds 1 ?_
  rw [rounds_succ]
  go_wp2
  go_ret
  exact ⟨rfl, HF.out⟩

set_option maxRecDepth 100000 in
set_option maxHeartbeats 1600000 in
/-- errors.as at a *Call, of a trouble that came through none -/
theorem asCa_none (c : Int) (b : Nat) (w : World) (hb : w.cell? ⟨b, 0, none⟩ = some (.int .i64 c)) (vb : Nat) (t : Addr) :
    Calls Tryd.prog 79 #[.iface 60 (.pointer (some ⟨b, 0, none⟩)), .iface 69 (.pointer (some t)), .agg #[.pointer (some ⟨5, 69, none⟩), .pointer (some ⟨vb, 0, none⟩), .int .u64 150], .iface 145 (.agg #[.pointer (some ⟨5, 61, none⟩)])] w fun e w' => e = .returned (.bool false) ∧ Below w.heap.size w w' := by
  have z0 := Tb.xTypeOf
  have z1 := Tb.xAssignableTo
  have z2 := Tb.xVElem
  have z3 := Tb.xValueOf
  have z4 := Tb.xSet
  have z5 := Tb.methodAssignableTo
  have z6 := Tb.typeOfCl
  have z7 := Tb.typeOfTr
  have z8 := Tb.typeOfCa
  have z9 := Tb.noAsCl
  have z10 := Tb.noAsTr
  have z11 := Tb.noAsCa
  have z12 := Tb.noUnwrapCl
  have z13 := Tb.hasUnwrapTr
  have z14 := Tb.hasUnwrapCa
  have z15 := Tb.noUnwrapsCl
  have z16 := Tb.methodUnwrapTr
  have z17 := Tb.methodUnwrapCa
  have z18 := Tb.eqlNil
  have z19 := Tb.assignTrCa
  have z20 := Tb.assignClCa
  have HC0 := Lib.hid hb
  clear hb
  go_enter Tryd.func79, Tryd.ntmps79
  go_wp2
  refine wp_loop_rounds 2 ?_
  rw [rounds_succ]
  go_wp2_with fail
  refine (unwrapTr_walk b c _ (cell_al HC0.out _)).mono ?_
  rintro e w' ⟨rfl, rfl⟩
  go_wp2
  rw [rounds_succ]
  go_wp2
  go_ret
  exact ⟨rfl, (Below.refl _ w).alloc (Nat.le_refl _) _⟩
end Go.Proofs.YtnhnaallalgefaaDoor
