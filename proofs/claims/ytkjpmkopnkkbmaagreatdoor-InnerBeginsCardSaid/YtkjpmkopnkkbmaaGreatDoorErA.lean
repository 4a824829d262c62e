/- errors.As, at the address of a *fault.fault: over a fault, and over faults that are seen from words. -/
import Derived.Test.YtkjpmkopnkkbmaaGreatDoorStA
import Derived.WalkKit
import Derived.LaidEql
import Derived.Stop.Asserts
import Derived.RowKitTokens
set_option maxRecDepth 100000
namespace Go.Proofs.YtkjpmkopnkkbmaaGreatDoor
open Go.RowKit Go.Extern.Stop Go.Stop Go.Extern

/-- What errors.errorType holds. -/
def Gl (w : World) : Prop := w.cell? ⟨0, 0, none⟩ = some (.iface 185 (.agg #[.pointer (some ⟨1, 118, none⟩)]))
theorem as_nil (t : Value) (w : World) :
    Calls Tryz.prog 148 #[.nilIface, t] w fun e w' => e = .returned (.bool false) ∧ w' = w := by
  go_enter Tryz.func148, Tryz.ntmps148
  go_wp2
  go_ret
  exact ⟨rfl, rfl⟩
theorem ra_valueOfFF (t : Addr) (w : World) : (ReflectliteValue.unpack (.iface 158 (.pointer (some t)))).run Tryz.prog w
    = .ok (.agg #[.pointer (some ⟨1, 158, none⟩), .pointer (some ⟨w.heap.size, 0, none⟩), .int .u64 150]) (w.alloc (.cells #[.pointer (some t)] 158)) := by kernel_rfl
theorem ra_typeFF (a : Addr) (w : World) : (ReflectliteValue.methodAny (ReflectliteValue.valueError "reflectlite.Value.Type" 0) (fun t _ _ _ => ReflectliteType.toType t) #[.agg #[.pointer (some ⟨1, 158, none⟩), .pointer (some a), .int .u64 150]]).run Tryz.prog w
    = .ok (.iface 185 (.agg #[.pointer (some ⟨1, 158, none⟩)])) w := by kernel_rfl
theorem ra_methodKind (h : Value) (w : World) : (Go.method 325 185 (.agg #[h]) "Kind").run Tryz.prog w = .ok (189, h) w := by kernel_rfl
theorem ra_kindFF (w : World) : ((ReflectliteType.abiMethod fun t => (fun a : Nat => Value.int IntKind.u8 (a : Int)) <$> Rtype.kind t) #[.pointer (some ⟨1, 158, none⟩)]).run Tryz.prog w = .ok (.int .u8 22) w := by kernel_rfl
theorem ra_kindF (w : World) : ((ReflectliteType.abiMethod fun t => (fun a : Nat => Value.int IntKind.u8 (a : Int)) <$> Rtype.kind t) #[.pointer (some ⟨1, 156, none⟩)]).run Tryz.prog w = .ok (.int .u8 22) w := by kernel_rfl
theorem rlm (z : Sem Value) (f : TypeId → Addr → Nat → Nat → Sem Value) (v : Value) :
    ReflectliteValue.method z f #[v] = (do match ← ReflectliteValue.parts v with | none => z | some (t, a, fl) => f t a fl (fl % 32)) := rfl
theorem ra_partsFF (a : Addr) (w : World) : (ReflectliteValue.parts (.agg #[.pointer (some ⟨1, 158, none⟩), .pointer (some a), .int .u64 150])).run Tryz.prog w = .ok (some (158, a, 150)) w := by kernel_rfl
theorem ra_isNilFF (a p : Addr) (W : World) (ha : W.cell? a = some (.pointer (some p))) :
    (ReflectliteValue.method (ReflectliteValue.valueError "reflectlite.Value.IsNil" 0) ReflectliteValue.isNil #[.agg #[.pointer (some ⟨1, 158, none⟩), .pointer (some a), .int .u64 150]]).run Tryz.prog W = .ok (.bool false) W := by
  rw [rlm]
  simp only [Sem.run_bind, ra_partsFF, Result.andThen]
  simp [ReflectliteValue.isNil, loadVar, isAgg, underlying, Tryz.underlying158, ha, Result.andThen]
theorem ra_methodElem (h : Value) (w : World) : (Go.method 325 185 (.agg #[h]) "Elem").run Tryz.prog w = .ok (201, .agg #[h]) w := by kernel_rfl
theorem ra_methodImplements (h : Value) (w : World) : (Go.method 325 185 (.agg #[h]) "Implements").run Tryz.prog w = .ok (202, .agg #[h]) w := by kernel_rfl
theorem ra_methodAssignableTo (h : Value) (w : World) : (Go.method 325 185 (.agg #[h]) "AssignableTo").run Tryz.prog w = .ok (199, .agg #[h]) w := by kernel_rfl
theorem ra_methodUnwrap (h : Value) (w : World) : (Go.method 325 150 h "Unwrap").run Tryz.prog w = .ok (193, h) w := by kernel_rfl
theorem ra_elemFF (w : World) : (ReflectliteType.method ReflectliteType.elem #[.agg #[.pointer (some ⟨1, 158, none⟩)]]).run Tryz.prog w = .ok (.iface 185 (.agg #[.pointer (some ⟨1, 156, none⟩)])) w := by kernel_rfl
theorem ra_implementsF (w : World) : (ReflectliteType.relation "Implements" ReflectliteType.implements_ #[.agg #[.pointer (some ⟨1, 156, none⟩)], .iface 185 (.agg #[.pointer (some ⟨1, 118, none⟩)])]).run Tryz.prog w = .ok (.bool true) w := by kernel_rfl
theorem ra_typeOfF (v : Value) (w : World) : (ReflectliteType.typeOf #[.iface 156 v]).run Tryz.prog w = .ok (.iface 185 (.agg #[.pointer (some ⟨1, 156, none⟩)])) w := by kernel_rfl
theorem ra_typeOfS (v : Value) (w : World) : (ReflectliteType.typeOf #[.iface 150 v]).run Tryz.prog w = .ok (.iface 185 (.agg #[.pointer (some ⟨1, 150, none⟩)])) w := by kernel_rfl
theorem ra_assignableF (w : World) : (ReflectliteType.relation "AssignableTo" ReflectliteType.assignableTo #[.agg #[.pointer (some ⟨1, 156, none⟩)], .iface 185 (.agg #[.pointer (some ⟨1, 156, none⟩)])]).run Tryz.prog w = .ok (.bool true) w := by kernel_rfl
theorem ra_assignableS (w : World) : (ReflectliteType.relation "AssignableTo" ReflectliteType.assignableTo #[.agg #[.pointer (some ⟨1, 150, none⟩)], .iface 185 (.agg #[.pointer (some ⟨1, 156, none⟩)])]).run Tryz.prog w = .ok (.bool false) w := by kernel_rfl
theorem ra_valueOfF (e : Addr) (w : World) : (ReflectliteValue.unpack (.iface 156 (.pointer (some e)))).run Tryz.prog w
    = .ok (.agg #[.pointer (some ⟨1, 156, none⟩), .pointer (some ⟨w.heap.size, 0, none⟩), .int .u64 150]) (w.alloc (.cells #[.pointer (some e)] 156)) := by kernel_rfl
theorem ra_elemOfFF (w : World) : (Rtype.elem? 158).run Tryz.prog w = .ok (some 156) w := by kernel_rfl
theorem ra_mkF (p : Addr) (w : World) : (ReflectliteValue.mk 156 p ReflectliteValue.flagAddr).run Tryz.prog w = .ok (.agg #[.pointer (some ⟨1, 156, none⟩), .pointer (some p), .int .u64 406]) w := by kernel_rfl
theorem ra_elemVFF (a p : Addr) (W : World) (ha : W.cell? a = some (.pointer (some p))) :
    (ReflectliteValue.method (ReflectliteValue.valueError "reflectlite.Value.Elem" 0) ReflectliteValue.elem #[.agg #[.pointer (some ⟨1, 158, none⟩), .pointer (some a), .int .u64 150]]).run Tryz.prog W
      = .ok (.agg #[.pointer (some ⟨1, 156, none⟩), .pointer (some p), .int .u64 406]) W := by
  rw [rlm]
  simp only [Sem.run_bind, ra_partsFF, Result.andThen]
  simp [ReflectliteValue.elem, loadVar, isAgg, underlying, Tryz.underlying158, ha, Result.andThen, ra_elemOfFF, ra_mkF]
theorem rls (v x : Value) : ReflectliteValue.set #[v, x] = (do
    let (some (dst, a, fl), some (src, b, _)) := (← ReflectliteValue.parts v, ← ReflectliteValue.parts x)
      | unsupported (.noEntry "extern/(internal/reflectlite.Value).Set.zeroValue")
    if fl / ReflectliteValue.flagAddr % 2 == 0 then unsupported (.noEntry "extern/(internal/reflectlite.Value).Set.unaddressable")
    let val ← loadVar src b
    if ← Rtype.directlyAssignable dst src then storeVar dst a val
    else if ← Rtype.implements dst src then
      if (← Rtype.kind src) == 20 then
        match val with
        | .nilIface => unsupported (.noEntry "extern/reflectlite: a nil value of one interface type handed on as a value of another")
        | _ => storeVar dst a val
      else storeVar dst a (.iface src val)
    else panicString ("reflectlite.Set: value of type " ++ (← Rtype.spelt src) ++ " is not assignable to type " ++ (← Rtype.spelt dst))
    pure (.tuple #[])) := rfl
theorem ra_partsFa (a : Addr) (w : World) : (ReflectliteValue.parts (.agg #[.pointer (some ⟨1, 156, none⟩), .pointer (some a), .int .u64 406])).run Tryz.prog w = .ok (some (156, a, 406)) w := by kernel_rfl
theorem ra_partsF (a : Addr) (w : World) : (ReflectliteValue.parts (.agg #[.pointer (some ⟨1, 156, none⟩), .pointer (some a), .int .u64 150])).run Tryz.prog w = .ok (some (156, a, 150)) w := by kernel_rfl
theorem ra_directF (w : World) : (Rtype.directlyAssignable 156 156).run Tryz.prog w = .ok true w := by kernel_rfl
theorem ra_sizeF (w : World) : (sizeOf 156).run Tryz.prog w = .ok 1 w := by kernel_rfl
theorem ra_setF (ta b e : Addr) (old : Value) (W : World) (hb : W.cell? b = some (.pointer (some e))) (ht : W.cell? ta = some old) (hf : W.frozen? ta = false) :
    (ReflectliteValue.set #[.agg #[.pointer (some ⟨1, 156, none⟩), .pointer (some ta), .int .u64 406], .agg #[.pointer (some ⟨1, 156, none⟩), .pointer (some b), .int .u64 150]]).run Tryz.prog W
      = .ok (.tuple #[]) (W.setCell ta (.pointer (some e))) := by
  rw [rls]
  simp only [Sem.run_bind, ra_partsFa, ra_partsF, Result.andThen]
  simp [ReflectliteValue.flagAddr, loadVar, isAgg, underlying, Tryz.underlying156, hb, Result.andThen, ra_directF, storeVar, Value.cells, storeCells, Addr.add]
  rw [run_store Tryz.prog W ta _ _ (by rfl)]
  simp [ht, hf]
theorem ra_noAs (v : Value) (xT : TypeId) (w : World) : (Instr.typeAssert (.iface 150 v) xT 190 true).run Tryz.prog w = .ok (.tuple #[.nilIface, .bool false]) w :=
  run_typeAssert_lacksB Tryz.underlying190 (by kernel_rfl) (by kernel_rfl) v xT w
theorem ra_isUn (v : Value) (xT : TypeId) (w : World) : (Instr.typeAssert (.iface 150 v) xT 193 true).run Tryz.prog w = .ok (.tuple #[.iface 150 v, .bool true]) w :=
  run_typeAssert_hasB Tryz.underlying193 (by kernel_rfl) v xT w
end Go.Proofs.YtkjpmkopnkkbmaaGreatDoor
