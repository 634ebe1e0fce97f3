/- Closed facts on the model's entries for internal/reflectlite at the types of package trouble, and small laws on the entries that read or write memory. Conditions: as each theorem says. -/
import Derived.Test.YtnhnaallalgefaaDoorProg
import Derived.Test.YtnhnaallalgefaaDoorChecked
import Derived.WalkKit
import Derived.LaidEql
import Derived.Stop.Asserts
import Derived.RowKitTokens
import Derived.Lib.Hide
import Derived.WalkLawsBesides
import Derived.Maps.AppendAt
import Derived.Outline
namespace Go.Proofs.YtnhnaallalgefaaDoor
open Go Go.RowKit Go.Extern.Stop Go.Stop Go.Extern Go.Proofs

theorem Tb.rlm (z : Sem Value) (f : TypeId → Addr → Nat → Nat → Sem Value) (v : Value) :
    ReflectliteValue.method z f #[v] = (do match ← ReflectliteValue.parts v with | none => z | some (t, a, fl) => f t a fl (fl % 32)) := rfl
theorem Tb.rls (v x : Value) : ReflectliteValue.set #[v, x] = (do
    let (some (dst, a, fl), some (src, b, _)) := (← ReflectliteValue.parts v, ← ReflectliteValue.parts x)
      | unsupported (.noEntry "extern/(internal/reflectlite.Value).Set.zeroValue")
    if fl / ReflectliteValue.flagAddr % 2 == 0 then unsupported (.noEntry "extern/(internal/reflectlite.Value).Set.unaddressable")
    let val ← loadVar src b
    if ← Rtype.directlyAssignable dst src then storeVar dst a val
    else if ← Rtype.implements dst src then
      if (← Rtype.kind src) == 20 then
        match val with
        | .nilIface => unsupported (.noEntry "extern/reflectlite: a nil value of one interface type handed on as a value of another")
        | _ => storeVar dst a val
      else storeVar dst a (.iface src val)
    else panicString ("reflectlite.Set: value of type " ++ (← Rtype.spelt src) ++ " is not assignable to type " ++ (← Rtype.spelt dst))
    pure (.tuple #[])) := rfl
theorem Tb.methodKind (h : Value) (w : World) : (Go.method 314 145 (.agg #[h]) "Kind").run Tryd.prog w = .ok (162, h) w := by kernel_rfl
theorem Tb.methodElem (h : Value) (w : World) : (Go.method 314 145 (.agg #[h]) "Elem").run Tryd.prog w = .ok (171, .agg #[h]) w := by kernel_rfl
theorem Tb.methodImplements (h : Value) (w : World) : (Go.method 314 145 (.agg #[h]) "Implements").run Tryd.prog w = .ok (172, .agg #[h]) w := by kernel_rfl
theorem Tb.methodAssignableTo (h : Value) (w : World) : (Go.method 314 145 (.agg #[h]) "AssignableTo").run Tryd.prog w = .ok (169, .agg #[h]) w := by kernel_rfl
theorem Tb.methodComparable (h : Value) (w : World) : (Go.method 314 145 (.agg #[h]) "Comparable").run Tryd.prog w = .ok (170, .agg #[h]) w := by kernel_rfl

/-! target Cl -/
theorem Tb.kindPCl (w : World) : ((ReflectliteType.abiMethod fun t => (fun a : Nat => Value.int IntKind.u8 (a : Int)) <$> Rtype.kind t) #[.pointer (some ⟨5, 110, none⟩)]).run Tryd.prog w = .ok (.int .u8 22) w := by kernel_rfl
theorem Tb.kindCl (w : World) : ((ReflectliteType.abiMethod fun t => (fun a : Nat => Value.int IntKind.u8 (a : Int)) <$> Rtype.kind t) #[.pointer (some ⟨5, 52, none⟩)]).run Tryd.prog w = .ok (.int .u8 2) w := by kernel_rfl
theorem Tb.valueOfPCl (t : Addr) (w : World) : (ReflectliteValue.unpack (.iface 110 (.pointer (some t)))).run Tryd.prog w
    = .ok (.agg #[.pointer (some ⟨5, 110, none⟩), .pointer (some ⟨w.heap.size, 0, none⟩), .int .u64 150]) (w.alloc (.cells #[.pointer (some t)] 110)) := by kernel_rfl
theorem Tb.typePCl (a : Addr) (w : World) : (ReflectliteValue.methodAny (ReflectliteValue.valueError "reflectlite.Value.Type" 0) (fun t _ _ _ => ReflectliteType.toType t) #[.agg #[.pointer (some ⟨5, 110, none⟩), .pointer (some a), .int .u64 150]]).run Tryd.prog w
    = .ok (.iface 145 (.agg #[.pointer (some ⟨5, 110, none⟩)])) w := by kernel_rfl
theorem Tb.partsPCl (a : Addr) (w : World) : (ReflectliteValue.parts (.agg #[.pointer (some ⟨5, 110, none⟩), .pointer (some a), .int .u64 150])).run Tryd.prog w = .ok (some (110, a, 150)) w := by kernel_rfl
theorem Tb.isNilPCl (a p : Addr) (W : World) (ha : W.cell? a = some (.pointer (some p))) :
    (ReflectliteValue.method (ReflectliteValue.valueError "reflectlite.Value.IsNil" 0) ReflectliteValue.isNil #[.agg #[.pointer (some ⟨5, 110, none⟩), .pointer (some a), .int .u64 150]]).run Tryd.prog W = .ok (.bool false) W := by
  rw [Tb.rlm]
  simp only [Sem.run_bind, Tb.partsPCl, Result.andThen]
  simp [ReflectliteValue.isNil, loadVar, isAgg, underlying, Tryd.underlying110, ha, Result.andThen]
theorem Tb.elemPCl (w : World) : (ReflectliteType.method ReflectliteType.elem #[.agg #[.pointer (some ⟨5, 110, none⟩)]]).run Tryd.prog w = .ok (.iface 145 (.agg #[.pointer (some ⟨5, 52, none⟩)])) w := by kernel_rfl
theorem Tb.implementsCl (w : World) : (ReflectliteType.relation "Implements" ReflectliteType.implements_ #[.agg #[.pointer (some ⟨5, 52, none⟩)], .iface 145 (.agg #[.pointer (some ⟨5, 48, none⟩)])]).run Tryd.prog w = .ok (.bool true) w := by kernel_rfl
theorem Tb.typeOfCl (v : Value) (w : World) : (ReflectliteType.typeOf #[.iface 52 v]).run Tryd.prog w = .ok (.iface 145 (.agg #[.pointer (some ⟨5, 52, none⟩)])) w := by kernel_rfl
theorem Tb.valueOfCl (c : Int) (w : World) : (ReflectliteValue.unpack (.iface 52 (.int .i64 c))).run Tryd.prog w
    = .ok (.agg #[.pointer (some ⟨5, 52, none⟩), .pointer (some ⟨w.heap.size, 0, none⟩), .int .u64 130]) (w.alloc (.cells #[.int .i64 c] 52)) := by kernel_rfl
theorem Tb.elemOfPCl (w : World) : (Rtype.elem? 110).run Tryd.prog w = .ok (some 52) w := by kernel_rfl
theorem Tb.mkCl (p : Addr) (w : World) : (ReflectliteValue.mk 52 p ReflectliteValue.flagAddr).run Tryd.prog w = .ok (.agg #[.pointer (some ⟨5, 52, none⟩), .pointer (some p), .int .u64 386]) w := by kernel_rfl
theorem Tb.elemVPCl (a p : Addr) (W : World) (ha : W.cell? a = some (.pointer (some p))) :
    (ReflectliteValue.method (ReflectliteValue.valueError "reflectlite.Value.Elem" 0) ReflectliteValue.elem #[.agg #[.pointer (some ⟨5, 110, none⟩), .pointer (some a), .int .u64 150]]).run Tryd.prog W
      = .ok (.agg #[.pointer (some ⟨5, 52, none⟩), .pointer (some p), .int .u64 386]) W := by
  rw [Tb.rlm]
  simp only [Sem.run_bind, Tb.partsPCl, Result.andThen]
  simp [ReflectliteValue.elem, loadVar, isAgg, underlying, Tryd.underlying110, ha, Result.andThen, Tb.elemOfPCl, Tb.mkCl]
theorem Tb.partsACl (a : Addr) (w : World) : (ReflectliteValue.parts (.agg #[.pointer (some ⟨5, 52, none⟩), .pointer (some a), .int .u64 386])).run Tryd.prog w = .ok (some (52, a, 386)) w := by kernel_rfl
theorem Tb.partsBCl (a : Addr) (w : World) : (ReflectliteValue.parts (.agg #[.pointer (some ⟨5, 52, none⟩), .pointer (some a), .int .u64 130])).run Tryd.prog w = .ok (some (52, a, 130)) w := by kernel_rfl
theorem Tb.directCl (w : World) : (Rtype.directlyAssignable 52 52).run Tryd.prog w = .ok true w := by kernel_rfl
theorem Tb.sizeCl (w : World) : (sizeOf 52).run Tryd.prog w = .ok 1 w := by kernel_rfl
theorem Tb.setCl (ta b : Addr) (c : Int) (old : Value) (W : World) (hb : W.cell? b = some (.int .i64 c)) (ht : W.cell? ta = some old) (hf : W.frozen? ta = false) :
    (ReflectliteValue.set #[.agg #[.pointer (some ⟨5, 52, none⟩), .pointer (some ta), .int .u64 386], .agg #[.pointer (some ⟨5, 52, none⟩), .pointer (some b), .int .u64 130]]).run Tryd.prog W
      = .ok (.tuple #[]) (W.setCell ta (.int .i64 c)) := by
  rw [Tb.rls]
  simp only [Sem.run_bind, Tb.partsACl, Tb.partsBCl, Result.andThen]
  simp [ReflectliteValue.flagAddr, loadVar, isAgg, underlying, Tryd.underlying52, hb, Result.andThen, Tb.directCl, storeVar, Value.cells, storeCells, Addr.add]
  rw [run_store Tryd.prog W ta _ _ (by rfl)]
  simp [ht, hf]

/-! target Tr -/
theorem Tb.kindPTr (w : World) : ((ReflectliteType.abiMethod fun t => (fun a : Nat => Value.int IntKind.u8 (a : Int)) <$> Rtype.kind t) #[.pointer (some ⟨5, 64, none⟩)]).run Tryd.prog w = .ok (.int .u8 22) w := by kernel_rfl
theorem Tb.kindTr (w : World) : ((ReflectliteType.abiMethod fun t => (fun a : Nat => Value.int IntKind.u8 (a : Int)) <$> Rtype.kind t) #[.pointer (some ⟨5, 60, none⟩)]).run Tryd.prog w = .ok (.int .u8 22) w := by kernel_rfl
theorem Tb.valueOfPTr (t : Addr) (w : World) : (ReflectliteValue.unpack (.iface 64 (.pointer (some t)))).run Tryd.prog w
    = .ok (.agg #[.pointer (some ⟨5, 64, none⟩), .pointer (some ⟨w.heap.size, 0, none⟩), .int .u64 150]) (w.alloc (.cells #[.pointer (some t)] 64)) := by kernel_rfl
theorem Tb.typePTr (a : Addr) (w : World) : (ReflectliteValue.methodAny (ReflectliteValue.valueError "reflectlite.Value.Type" 0) (fun t _ _ _ => ReflectliteType.toType t) #[.agg #[.pointer (some ⟨5, 64, none⟩), .pointer (some a), .int .u64 150]]).run Tryd.prog w
    = .ok (.iface 145 (.agg #[.pointer (some ⟨5, 64, none⟩)])) w := by kernel_rfl
theorem Tb.partsPTr (a : Addr) (w : World) : (ReflectliteValue.parts (.agg #[.pointer (some ⟨5, 64, none⟩), .pointer (some a), .int .u64 150])).run Tryd.prog w = .ok (some (64, a, 150)) w := by kernel_rfl
theorem Tb.isNilPTr (a p : Addr) (W : World) (ha : W.cell? a = some (.pointer (some p))) :
    (ReflectliteValue.method (ReflectliteValue.valueError "reflectlite.Value.IsNil" 0) ReflectliteValue.isNil #[.agg #[.pointer (some ⟨5, 64, none⟩), .pointer (some a), .int .u64 150]]).run Tryd.prog W = .ok (.bool false) W := by
  rw [Tb.rlm]
  simp only [Sem.run_bind, Tb.partsPTr, Result.andThen]
  simp [ReflectliteValue.isNil, loadVar, isAgg, underlying, Tryd.underlying64, ha, Result.andThen]
theorem Tb.elemPTr (w : World) : (ReflectliteType.method ReflectliteType.elem #[.agg #[.pointer (some ⟨5, 64, none⟩)]]).run Tryd.prog w = .ok (.iface 145 (.agg #[.pointer (some ⟨5, 60, none⟩)])) w := by kernel_rfl
theorem Tb.implementsTr (w : World) : (ReflectliteType.relation "Implements" ReflectliteType.implements_ #[.agg #[.pointer (some ⟨5, 60, none⟩)], .iface 145 (.agg #[.pointer (some ⟨5, 48, none⟩)])]).run Tryd.prog w = .ok (.bool true) w := by kernel_rfl
theorem Tb.typeOfTr (v : Value) (w : World) : (ReflectliteType.typeOf #[.iface 60 v]).run Tryd.prog w = .ok (.iface 145 (.agg #[.pointer (some ⟨5, 60, none⟩)])) w := by kernel_rfl
theorem Tb.valueOfTr (e : Addr) (w : World) : (ReflectliteValue.unpack (.iface 60 (.pointer (some e)))).run Tryd.prog w
    = .ok (.agg #[.pointer (some ⟨5, 60, none⟩), .pointer (some ⟨w.heap.size, 0, none⟩), .int .u64 150]) (w.alloc (.cells #[.pointer (some e)] 60)) := by kernel_rfl
theorem Tb.elemOfPTr (w : World) : (Rtype.elem? 64).run Tryd.prog w = .ok (some 60) w := by kernel_rfl
theorem Tb.mkTr (p : Addr) (w : World) : (ReflectliteValue.mk 60 p ReflectliteValue.flagAddr).run Tryd.prog w = .ok (.agg #[.pointer (some ⟨5, 60, none⟩), .pointer (some p), .int .u64 406]) w := by kernel_rfl
theorem Tb.elemVPTr (a p : Addr) (W : World) (ha : W.cell? a = some (.pointer (some p))) :
    (ReflectliteValue.method (ReflectliteValue.valueError "reflectlite.Value.Elem" 0) ReflectliteValue.elem #[.agg #[.pointer (some ⟨5, 64, none⟩), .pointer (some a), .int .u64 150]]).run Tryd.prog W
      = .ok (.agg #[.pointer (some ⟨5, 60, none⟩), .pointer (some p), .int .u64 406]) W := by
  rw [Tb.rlm]
  simp only [Sem.run_bind, Tb.partsPTr, Result.andThen]
  simp [ReflectliteValue.elem, loadVar, isAgg, underlying, Tryd.underlying64, ha, Result.andThen, Tb.elemOfPTr, Tb.mkTr]
theorem Tb.partsATr (a : Addr) (w : World) : (ReflectliteValue.parts (.agg #[.pointer (some ⟨5, 60, none⟩), .pointer (some a), .int .u64 406])).run Tryd.prog w = .ok (some (60, a, 406)) w := by kernel_rfl
theorem Tb.partsBTr (a : Addr) (w : World) : (ReflectliteValue.parts (.agg #[.pointer (some ⟨5, 60, none⟩), .pointer (some a), .int .u64 150])).run Tryd.prog w = .ok (some (60, a, 150)) w := by kernel_rfl
theorem Tb.directTr (w : World) : (Rtype.directlyAssignable 60 60).run Tryd.prog w = .ok true w := by kernel_rfl
theorem Tb.sizeTr (w : World) : (sizeOf 60).run Tryd.prog w = .ok 1 w := by kernel_rfl
theorem Tb.setTr (ta b : Addr) (e : Addr) (old : Value) (W : World) (hb : W.cell? b = some (.pointer (some e))) (ht : W.cell? ta = some old) (hf : W.frozen? ta = false) :
    (ReflectliteValue.set #[.agg #[.pointer (some ⟨5, 60, none⟩), .pointer (some ta), .int .u64 406], .agg #[.pointer (some ⟨5, 60, none⟩), .pointer (some b), .int .u64 150]]).run Tryd.prog W
      = .ok (.tuple #[]) (W.setCell ta (.pointer (some e))) := by
  rw [Tb.rls]
  simp only [Sem.run_bind, Tb.partsATr, Tb.partsBTr, Result.andThen]
  simp [ReflectliteValue.flagAddr, loadVar, isAgg, underlying, Tryd.underlying60, hb, Result.andThen, Tb.directTr, storeVar, Value.cells, storeCells, Addr.add]
  rw [run_store Tryd.prog W ta _ _ (by rfl)]
  simp [ht, hf]

/-! target Ca -/
theorem Tb.kindPCa (w : World) : ((ReflectliteType.abiMethod fun t => (fun a : Nat => Value.int IntKind.u8 (a : Int)) <$> Rtype.kind t) #[.pointer (some ⟨5, 69, none⟩)]).run Tryd.prog w = .ok (.int .u8 22) w := by kernel_rfl
theorem Tb.kindCa (w : World) : ((ReflectliteType.abiMethod fun t => (fun a : Nat => Value.int IntKind.u8 (a : Int)) <$> Rtype.kind t) #[.pointer (some ⟨5, 61, none⟩)]).run Tryd.prog w = .ok (.int .u8 22) w := by kernel_rfl
theorem Tb.valueOfPCa (t : Addr) (w : World) : (ReflectliteValue.unpack (.iface 69 (.pointer (some t)))).run Tryd.prog w
    = .ok (.agg #[.pointer (some ⟨5, 69, none⟩), .pointer (some ⟨w.heap.size, 0, none⟩), .int .u64 150]) (w.alloc (.cells #[.pointer (some t)] 69)) := by kernel_rfl
theorem Tb.typePCa (a : Addr) (w : World) : (ReflectliteValue.methodAny (ReflectliteValue.valueError "reflectlite.Value.Type" 0) (fun t _ _ _ => ReflectliteType.toType t) #[.agg #[.pointer (some ⟨5, 69, none⟩), .pointer (some a), .int .u64 150]]).run Tryd.prog w
    = .ok (.iface 145 (.agg #[.pointer (some ⟨5, 69, none⟩)])) w := by kernel_rfl
theorem Tb.partsPCa (a : Addr) (w : World) : (ReflectliteValue.parts (.agg #[.pointer (some ⟨5, 69, none⟩), .pointer (some a), .int .u64 150])).run Tryd.prog w = .ok (some (69, a, 150)) w := by kernel_rfl
theorem Tb.isNilPCa (a p : Addr) (W : World) (ha : W.cell? a = some (.pointer (some p))) :
    (ReflectliteValue.method (ReflectliteValue.valueError "reflectlite.Value.IsNil" 0) ReflectliteValue.isNil #[.agg #[.pointer (some ⟨5, 69, none⟩), .pointer (some a), .int .u64 150]]).run Tryd.prog W = .ok (.bool false) W := by
  rw [Tb.rlm]
  simp only [Sem.run_bind, Tb.partsPCa, Result.andThen]
  simp [ReflectliteValue.isNil, loadVar, isAgg, underlying, Tryd.underlying69, ha, Result.andThen]
theorem Tb.elemPCa (w : World) : (ReflectliteType.method ReflectliteType.elem #[.agg #[.pointer (some ⟨5, 69, none⟩)]]).run Tryd.prog w = .ok (.iface 145 (.agg #[.pointer (some ⟨5, 61, none⟩)])) w := by kernel_rfl
theorem Tb.implementsCa (w : World) : (ReflectliteType.relation "Implements" ReflectliteType.implements_ #[.agg #[.pointer (some ⟨5, 61, none⟩)], .iface 145 (.agg #[.pointer (some ⟨5, 48, none⟩)])]).run Tryd.prog w = .ok (.bool true) w := by kernel_rfl
theorem Tb.typeOfCa (v : Value) (w : World) : (ReflectliteType.typeOf #[.iface 61 v]).run Tryd.prog w = .ok (.iface 145 (.agg #[.pointer (some ⟨5, 61, none⟩)])) w := by kernel_rfl
theorem Tb.valueOfCa (e : Addr) (w : World) : (ReflectliteValue.unpack (.iface 61 (.pointer (some e)))).run Tryd.prog w
    = .ok (.agg #[.pointer (some ⟨5, 61, none⟩), .pointer (some ⟨w.heap.size, 0, none⟩), .int .u64 150]) (w.alloc (.cells #[.pointer (some e)] 61)) := by kernel_rfl
theorem Tb.elemOfPCa (w : World) : (Rtype.elem? 69).run Tryd.prog w = .ok (some 61) w := by kernel_rfl
theorem Tb.mkCa (p : Addr) (w : World) : (ReflectliteValue.mk 61 p ReflectliteValue.flagAddr).run Tryd.prog w = .ok (.agg #[.pointer (some ⟨5, 61, none⟩), .pointer (some p), .int .u64 406]) w := by kernel_rfl
theorem Tb.elemVPCa (a p : Addr) (W : World) (ha : W.cell? a = some (.pointer (some p))) :
    (ReflectliteValue.method (ReflectliteValue.valueError "reflectlite.Value.Elem" 0) ReflectliteValue.elem #[.agg #[.pointer (some ⟨5, 69, none⟩), .pointer (some a), .int .u64 150]]).run Tryd.prog W
      = .ok (.agg #[.pointer (some ⟨5, 61, none⟩), .pointer (some p), .int .u64 406]) W := by
  rw [Tb.rlm]
  simp only [Sem.run_bind, Tb.partsPCa, Result.andThen]
  simp [ReflectliteValue.elem, loadVar, isAgg, underlying, Tryd.underlying69, ha, Result.andThen, Tb.elemOfPCa, Tb.mkCa]
theorem Tb.partsACa (a : Addr) (w : World) : (ReflectliteValue.parts (.agg #[.pointer (some ⟨5, 61, none⟩), .pointer (some a), .int .u64 406])).run Tryd.prog w = .ok (some (61, a, 406)) w := by kernel_rfl
theorem Tb.partsBCa (a : Addr) (w : World) : (ReflectliteValue.parts (.agg #[.pointer (some ⟨5, 61, none⟩), .pointer (some a), .int .u64 150])).run Tryd.prog w = .ok (some (61, a, 150)) w := by kernel_rfl
theorem Tb.directCa (w : World) : (Rtype.directlyAssignable 61 61).run Tryd.prog w = .ok true w := by kernel_rfl
theorem Tb.sizeCa (w : World) : (sizeOf 61).run Tryd.prog w = .ok 1 w := by kernel_rfl
theorem Tb.setCa (ta b : Addr) (e : Addr) (old : Value) (W : World) (hb : W.cell? b = some (.pointer (some e))) (ht : W.cell? ta = some old) (hf : W.frozen? ta = false) :
    (ReflectliteValue.set #[.agg #[.pointer (some ⟨5, 61, none⟩), .pointer (some ta), .int .u64 406], .agg #[.pointer (some ⟨5, 61, none⟩), .pointer (some b), .int .u64 150]]).run Tryd.prog W
      = .ok (.tuple #[]) (W.setCell ta (.pointer (some e))) := by
  rw [Tb.rls]
  simp only [Sem.run_bind, Tb.partsACa, Tb.partsBCa, Result.andThen]
  simp [ReflectliteValue.flagAddr, loadVar, isAgg, underlying, Tryd.underlying61, hb, Result.andThen, Tb.directCa, storeVar, Value.cells, storeCells, Addr.add]
  rw [run_store Tryd.prog W ta _ _ (by rfl)]
  simp [ht, hf]
theorem Tb.assignClCl (w : World) : (ReflectliteType.relation "AssignableTo" ReflectliteType.assignableTo #[.agg #[.pointer (some ⟨5, 52, none⟩)], .iface 145 (.agg #[.pointer (some ⟨5, 52, none⟩)])]).run Tryd.prog w = .ok (.bool true) w := by kernel_rfl
theorem Tb.assignClTr (w : World) : (ReflectliteType.relation "AssignableTo" ReflectliteType.assignableTo #[.agg #[.pointer (some ⟨5, 52, none⟩)], .iface 145 (.agg #[.pointer (some ⟨5, 60, none⟩)])]).run Tryd.prog w = .ok (.bool false) w := by kernel_rfl
theorem Tb.assignClCa (w : World) : (ReflectliteType.relation "AssignableTo" ReflectliteType.assignableTo #[.agg #[.pointer (some ⟨5, 52, none⟩)], .iface 145 (.agg #[.pointer (some ⟨5, 61, none⟩)])]).run Tryd.prog w = .ok (.bool false) w := by kernel_rfl
theorem Tb.assignTrCl (w : World) : (ReflectliteType.relation "AssignableTo" ReflectliteType.assignableTo #[.agg #[.pointer (some ⟨5, 60, none⟩)], .iface 145 (.agg #[.pointer (some ⟨5, 52, none⟩)])]).run Tryd.prog w = .ok (.bool false) w := by kernel_rfl
theorem Tb.assignTrTr (w : World) : (ReflectliteType.relation "AssignableTo" ReflectliteType.assignableTo #[.agg #[.pointer (some ⟨5, 60, none⟩)], .iface 145 (.agg #[.pointer (some ⟨5, 60, none⟩)])]).run Tryd.prog w = .ok (.bool true) w := by kernel_rfl
theorem Tb.assignTrCa (w : World) : (ReflectliteType.relation "AssignableTo" ReflectliteType.assignableTo #[.agg #[.pointer (some ⟨5, 60, none⟩)], .iface 145 (.agg #[.pointer (some ⟨5, 61, none⟩)])]).run Tryd.prog w = .ok (.bool false) w := by kernel_rfl
theorem Tb.assignCaCl (w : World) : (ReflectliteType.relation "AssignableTo" ReflectliteType.assignableTo #[.agg #[.pointer (some ⟨5, 61, none⟩)], .iface 145 (.agg #[.pointer (some ⟨5, 52, none⟩)])]).run Tryd.prog w = .ok (.bool false) w := by kernel_rfl
theorem Tb.assignCaTr (w : World) : (ReflectliteType.relation "AssignableTo" ReflectliteType.assignableTo #[.agg #[.pointer (some ⟨5, 61, none⟩)], .iface 145 (.agg #[.pointer (some ⟨5, 60, none⟩)])]).run Tryd.prog w = .ok (.bool false) w := by kernel_rfl
theorem Tb.assignCaCa (w : World) : (ReflectliteType.relation "AssignableTo" ReflectliteType.assignableTo #[.agg #[.pointer (some ⟨5, 61, none⟩)], .iface 145 (.agg #[.pointer (some ⟨5, 61, none⟩)])]).run Tryd.prog w = .ok (.bool true) w := by kernel_rfl
theorem Tb.noIsCl (v : Value) (xT : TypeId) (w : World) : (Instr.typeAssert (.iface 52 v) xT 147 true).run Tryd.prog w = .ok (.tuple #[.nilIface, .bool false]) w := run_typeAssert_lacksB Tryd.underlying147 (by kernel_rfl) (by kernel_rfl) v xT w
theorem Tb.noAsCl (v : Value) (xT : TypeId) (w : World) : (Instr.typeAssert (.iface 52 v) xT 156 true).run Tryd.prog w = .ok (.tuple #[.nilIface, .bool false]) w := run_typeAssert_lacksB Tryd.underlying156 (by kernel_rfl) (by kernel_rfl) v xT w
theorem Tb.noUnwrapsCl (v : Value) (xT : TypeId) (w : World) : (Instr.typeAssert (.iface 52 v) xT 151 true).run Tryd.prog w = .ok (.tuple #[.nilIface, .bool false]) w := run_typeAssert_lacksB Tryd.underlying151 (by kernel_rfl) (by kernel_rfl) v xT w
theorem Tb.noUnwrapCl (v : Value) (xT : TypeId) (w : World) : (Instr.typeAssert (.iface 52 v) xT 150 true).run Tryd.prog w = .ok (.tuple #[.nilIface, .bool false]) w := run_typeAssert_lacksB Tryd.underlying150 (by kernel_rfl) (by kernel_rfl) v xT w
theorem Tb.noIsTr (v : Value) (xT : TypeId) (w : World) : (Instr.typeAssert (.iface 60 v) xT 147 true).run Tryd.prog w = .ok (.tuple #[.nilIface, .bool false]) w := run_typeAssert_lacksB Tryd.underlying147 (by kernel_rfl) (by kernel_rfl) v xT w
theorem Tb.noAsTr (v : Value) (xT : TypeId) (w : World) : (Instr.typeAssert (.iface 60 v) xT 156 true).run Tryd.prog w = .ok (.tuple #[.nilIface, .bool false]) w := run_typeAssert_lacksB Tryd.underlying156 (by kernel_rfl) (by kernel_rfl) v xT w
theorem Tb.noUnwrapsTr (v : Value) (xT : TypeId) (w : World) : (Instr.typeAssert (.iface 60 v) xT 151 true).run Tryd.prog w = .ok (.tuple #[.nilIface, .bool false]) w := run_typeAssert_lacksB Tryd.underlying151 (by kernel_rfl) (by kernel_rfl) v xT w
theorem Tb.hasUnwrapTr (v : Value) (xT : TypeId) (w : World) : (Instr.typeAssert (.iface 60 v) xT 150 true).run Tryd.prog w = .ok (.tuple #[.iface 60 v, .bool true]) w := run_typeAssert_hasB Tryd.underlying150 (by kernel_rfl) v xT w
theorem Tb.methodUnwrapTr (v : Value) (w : World) : (Go.method 314 60 v "Unwrap").run Tryd.prog w = .ok (41, v) w := by kernel_rfl
theorem Tb.noIsCa (v : Value) (xT : TypeId) (w : World) : (Instr.typeAssert (.iface 61 v) xT 147 true).run Tryd.prog w = .ok (.tuple #[.nilIface, .bool false]) w := run_typeAssert_lacksB Tryd.underlying147 (by kernel_rfl) (by kernel_rfl) v xT w
theorem Tb.noAsCa (v : Value) (xT : TypeId) (w : World) : (Instr.typeAssert (.iface 61 v) xT 156 true).run Tryd.prog w = .ok (.tuple #[.nilIface, .bool false]) w := run_typeAssert_lacksB Tryd.underlying156 (by kernel_rfl) (by kernel_rfl) v xT w
theorem Tb.noUnwrapsCa (v : Value) (xT : TypeId) (w : World) : (Instr.typeAssert (.iface 61 v) xT 151 true).run Tryd.prog w = .ok (.tuple #[.nilIface, .bool false]) w := run_typeAssert_lacksB Tryd.underlying151 (by kernel_rfl) (by kernel_rfl) v xT w
theorem Tb.hasUnwrapCa (v : Value) (xT : TypeId) (w : World) : (Instr.typeAssert (.iface 61 v) xT 150 true).run Tryd.prog w = .ok (.tuple #[.iface 61 v, .bool true]) w := run_typeAssert_hasB Tryd.underlying150 (by kernel_rfl) v xT w
theorem Tb.methodUnwrapCa (v : Value) (w : World) : (Go.method 314 61 v "Unwrap").run Tryd.prog w = .ok (44, v) w := by kernel_rfl
theorem Tb.isComparableCl (w : World) : ((ReflectliteType.method fun t => do Rtype.noPackHeld "Comparable" t; pure (.bool (← typeInfo t).comparable)) #[.agg #[.pointer (some ⟨5, 52, none⟩)]]).run Tryd.prog w = .ok (.bool true) w := by kernel_rfl
/-- the type handle of error, as the variable holds it -/
def ErrT (w : World) : Prop := w.cell? ⟨0, 0, none⟩ = some (.iface 145 (.agg #[.pointer (some ⟨5, 48, none⟩)]))
end Go.Proofs.YtnhnaallalgefaaDoor
