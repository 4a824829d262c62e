/- Faults, and their codes: the package fault, errors.As. -/
import Derived.Test.YtkjpmkopnkkbmaaGreatDoorJ5
import Derived.WalkKit
import Derived.LaidEql
import Derived.Stop.Asserts
import Derived.RowKitTokens
import Derived.Test.YtkjpmkopnkkbmaaGreatDoorJ4

/- errors.As, at the address of a *fault.fault: over a fault, and over faults that are seen from words. -/
set_option maxRecDepth 100000
namespace Go.Proofs.YtkjpmkopnkkbmaaGreatDoor
open Go.RowKit Go.Extern.Stop Go.Stop Go.Extern

def Gl (w : World) : Prop := w.cell? ⟨0, 0, none⟩ = some (.iface 185 (.agg #[.pointer (some ⟨1, 118, none⟩)]))
theorem ra_valueOfFF (t : Addr) (w : World) : (ReflectliteValue.unpack (.iface 158 (.pointer (some t)))).run Tryz.prog w
    = .ok (.agg #[.pointer (some ⟨1, 158, none⟩), .pointer (some ⟨w.heap.size, 0, none⟩), .int .u64 150]) (w.alloc (.cells #[.pointer (some t)] 158)) := by kernel_rfl
theorem ra_typeFF (a : Addr) (w : World) : (ReflectliteValue.methodAny (ReflectliteValue.valueError "reflectlite.Value.Type" 0) (fun t _ _ _ => ReflectliteType.toType t) #[.agg #[.pointer (some ⟨1, 158, none⟩), .pointer (some a), .int .u64 150]]).run Tryz.prog w
    = .ok (.iface 185 (.agg #[.pointer (some ⟨1, 158, none⟩)])) w := by kernel_rfl
theorem ra_methodKind (h : Value) (w : World) : (Go.method 325 185 (.agg #[h]) "Kind").run Tryz.prog w = .ok (189, h) w := by kernel_rfl
theorem ra_kindFF (w : World) : ((ReflectliteType.abiMethod fun t => (fun a : Nat => Value.int IntKind.u8 (a : Int)) <$> Rtype.kind t) #[.pointer (some ⟨1, 158, none⟩)]).run Tryz.prog w = .ok (.int .u8 22) w := by kernel_rfl
theorem ra_kindF (w : World) : ((ReflectliteType.abiMethod fun t => (fun a : Nat => Value.int IntKind.u8 (a : Int)) <$> Rtype.kind t) #[.pointer (some ⟨1, 156, none⟩)]).run Tryz.prog w = .ok (.int .u8 22) w := by kernel_rfl
theorem rlm (z : Sem Value) (f : TypeId → Addr → Nat → Nat → Sem Value) (v : Value) :
    ReflectliteValue.method z f #[v] = (do match ← ReflectliteValue.parts v with | none => z | some (t, a, fl) => f t a fl (fl % 32)) := rfl
theorem ra_partsFF (a : Addr) (w : World) : (ReflectliteValue.parts (.agg #[.pointer (some ⟨1, 158, none⟩), .pointer (some a), .int .u64 150])).run Tryz.prog w = .ok (some (158, a, 150)) w := by kernel_rfl
theorem ra_isNilFF (a p : Addr) (W : World) (ha : W.cell? a = some (.pointer (some p))) :
    (ReflectliteValue.method (ReflectliteValue.valueError "reflectlite.Value.IsNil" 0) ReflectliteValue.isNil #[.agg #[.pointer (some ⟨1, 158, none⟩), .pointer (some a), .int .u64 150]]).run Tryz.prog W = .ok (.bool false) W := by
  rw [rlm]
  simp only [Sem.run_bind, ra_partsFF, Result.andThen]
  simp [ReflectliteValue.isNil, loadVar, isAgg, underlying, Tryz.underlying158, ha, Result.andThen]
theorem ra_methodElem (h : Value) (w : World) : (Go.method 325 185 (.agg #[h]) "Elem").run Tryz.prog w = .ok (201, .agg #[h]) w := by kernel_rfl
theorem ra_methodImplements (h : Value) (w : World) : (Go.method 325 185 (.agg #[h]) "Implements").run Tryz.prog w = .ok (202, .agg #[h]) w := by kernel_rfl
theorem ra_methodAssignableTo (h : Value) (w : World) : (Go.method 325 185 (.agg #[h]) "AssignableTo").run Tryz.prog w = .ok (199, .agg #[h]) w := by kernel_rfl
theorem ra_methodUnwrap (h : Value) (w : World) : (Go.method 325 150 h "Unwrap").run Tryz.prog w = .ok (193, h) w := by kernel_rfl
theorem ra_elemFF (w : World) : (ReflectliteType.method ReflectliteType.elem #[.agg #[.pointer (some ⟨1, 158, none⟩)]]).run Tryz.prog w = .ok (.iface 185 (.agg #[.pointer (some ⟨1, 156, none⟩)])) w := by kernel_rfl
theorem ra_implementsF (w : World) : (ReflectliteType.relation "Implements" ReflectliteType.implements_ #[.agg #[.pointer (some ⟨1, 156, none⟩)], .iface 185 (.agg #[.pointer (some ⟨1, 118, none⟩)])]).run Tryz.prog w = .ok (.bool true) w := by kernel_rfl
theorem ra_typeOfF (v : Value) (w : World) : (ReflectliteType.typeOf #[.iface 156 v]).run Tryz.prog w = .ok (.iface 185 (.agg #[.pointer (some ⟨1, 156, none⟩)])) w := by kernel_rfl
theorem ra_typeOfS (v : Value) (w : World) : (ReflectliteType.typeOf #[.iface 150 v]).run Tryz.prog w = .ok (.iface 185 (.agg #[.pointer (some ⟨1, 150, none⟩)])) w := by kernel_rfl
theorem ra_assignableF (w : World) : (ReflectliteType.relation "AssignableTo" ReflectliteType.assignableTo #[.agg #[.pointer (some ⟨1, 156, none⟩)], .iface 185 (.agg #[.pointer (some ⟨1, 156, none⟩)])]).run Tryz.prog w = .ok (.bool true) w := by kernel_rfl
theorem ra_assignableS (w : World) : (ReflectliteType.relation "AssignableTo" ReflectliteType.assignableTo #[.agg #[.pointer (some ⟨1, 150, none⟩)], .iface 185 (.agg #[.pointer (some ⟨1, 156, none⟩)])]).run Tryz.prog w = .ok (.bool false) w := by kernel_rfl
theorem ra_valueOfF (e : Addr) (w : World) : (ReflectliteValue.unpack (.iface 156 (.pointer (some e)))).run Tryz.prog w
    = .ok (.agg #[.pointer (some ⟨1, 156, none⟩), .pointer (some ⟨w.heap.size, 0, none⟩), .int .u64 150]) (w.alloc (.cells #[.pointer (some e)] 156)) := by kernel_rfl
theorem ra_elemOfFF (w : World) : (Rtype.elem? 158).run Tryz.prog w = .ok (some 156) w := by kernel_rfl
theorem ra_mkF (p : Addr) (w : World) : (ReflectliteValue.mk 156 p ReflectliteValue.flagAddr).run Tryz.prog w = .ok (.agg #[.pointer (some ⟨1, 156, none⟩), .pointer (some p), .int .u64 406]) w := by kernel_rfl
theorem ra_elemVFF (a p : Addr) (W : World) (ha : W.cell? a = some (.pointer (some p))) :
    (ReflectliteValue.method (ReflectliteValue.valueError "reflectlite.Value.Elem" 0) ReflectliteValue.elem #[.agg #[.pointer (some ⟨1, 158, none⟩), .pointer (some a), .int .u64 150]]).run Tryz.prog W
      = .ok (.agg #[.pointer (some ⟨1, 156, none⟩), .pointer (some p), .int .u64 406]) W := by
  rw [rlm]
  simp only [Sem.run_bind, ra_partsFF, Result.andThen]
  simp [ReflectliteValue.elem, loadVar, isAgg, underlying, Tryz.underlying158, ha, Result.andThen, ra_elemOfFF, ra_mkF]
theorem rls (v x : Value) : ReflectliteValue.set #[v, x] = (do
    let (some (dst, a, fl), some (src, b, _)) := (← ReflectliteValue.parts v, ← ReflectliteValue.parts x)
      | unsupported (.noEntry "extern/(internal/reflectlite.Value).Set.zeroValue")
    if fl / ReflectliteValue.flagAddr % 2 == 0 then unsupported (.noEntry "extern/(internal/reflectlite.Value).Set.unaddressable")
    let val ← loadVar src b
    if ← Rtype.directlyAssignable dst src then storeVar dst a val
    else if ← Rtype.implements dst src then
      if (← Rtype.kind src) == 20 then
        match val with
        | .nilIface => unsupported (.noEntry "extern/reflectlite: a nil value of one interface type handed on as a value of another")
        | _ => storeVar dst a val
      else storeVar dst a (.iface src val)
    else panicString ("reflectlite.Set: value of type " ++ (← Rtype.spelt src) ++ " is not assignable to type " ++ (← Rtype.spelt dst))
    pure (.tuple #[])) := rfl
theorem ra_partsFa (a : Addr) (w : World) : (ReflectliteValue.parts (.agg #[.pointer (some ⟨1, 156, none⟩), .pointer (some a), .int .u64 406])).run Tryz.prog w = .ok (some (156, a, 406)) w := by kernel_rfl
theorem ra_partsF (a : Addr) (w : World) : (ReflectliteValue.parts (.agg #[.pointer (some ⟨1, 156, none⟩), .pointer (some a), .int .u64 150])).run Tryz.prog w = .ok (some (156, a, 150)) w := by kernel_rfl
theorem ra_directF (w : World) : (Rtype.directlyAssignable 156 156).run Tryz.prog w = .ok true w := by kernel_rfl
theorem ra_setF (ta b e : Addr) (old : Value) (W : World) (hb : W.cell? b = some (.pointer (some e))) (ht : W.cell? ta = some old) (hf : W.frozen? ta = false) :
    (ReflectliteValue.set #[.agg #[.pointer (some ⟨1, 156, none⟩), .pointer (some ta), .int .u64 406], .agg #[.pointer (some ⟨1, 156, none⟩), .pointer (some b), .int .u64 150]]).run Tryz.prog W
      = .ok (.tuple #[]) (W.setCell ta (.pointer (some e))) := by
  rw [rls]
  simp only [Sem.run_bind, ra_partsFa, ra_partsF, Result.andThen]
  simp [ReflectliteValue.flagAddr, loadVar, isAgg, underlying, Tryz.underlying156, hb, Result.andThen, ra_directF, storeVar, Value.cells, storeCells, Addr.add]
  rw [run_store Tryz.prog W ta _ _ (by rfl)]
  simp [ht, hf]
theorem ra_noAs (v : Value) (xT : TypeId) (w : World) : (Instr.typeAssert (.iface 150 v) xT 190 true).run Tryz.prog w = .ok (.tuple #[.nilIface, .bool false]) w :=
  run_typeAssert_lacksB Tryz.underlying190 (by kernel_rfl) (by kernel_rfl) v xT w
theorem ra_isUn (v : Value) (xT : TypeId) (w : World) : (Instr.typeAssert (.iface 150 v) xT 193 true).run Tryz.prog w = .ok (.tuple #[.iface 150 v, .bool true]) w :=
  run_typeAssert_hasB Tryz.underlying193 (by kernel_rfl) v xT w
end Go.Proofs.YtkjpmkopnkkbmaaGreatDoor

/- Functions of Fault, read without their frames; that each is enough. Printed by a program of mine (wip/lift/gen.py). -/
set_option maxRecDepth 100000
namespace Go.Proofs.YtkjpmkopnkkbmaaGreatDoor
open Go.RowKit

-- holloway/fault.Code
def fault_Code_sh (err1 : Value) (w : World) (K : Value → World → Prop) : Prop :=
 Calls Tryz.prog fn_fault_inner #[err1] w fun e2 w3 => ∃ n_code4 : Int, ∃ n_ip5 : Int, e2 = .returned (.agg #[.int .i64 n_code4, .int .i64 n_ip5]) ∧
 K (.int .i64 n_code4) w3
def fault_Code_an : An := ⟨[], [], []⟩
theorem fault_Code_lift {err1 : Value} {w : World} {K : Value → World → Prop} (h : fault_Code_sh err1 w K) : Calls Tryz.prog fn_fault_Code #[err1] w fun e w' => ∃ v, e = .returned v ∧ K v w' :=
   lift_calls (A := fault_Code_an) (c := bodyOf Tryz.f103) (args := [err1]) orc orc_wide Tryz.func103 (by kernel_rfl) (by kernel_rfl) (Eq.mp (by kernel_rfl : fault_Code_sh err1 w K = wpc orc Tryz.f103.ntmps fault_Code_an (bodyOf Tryz.f103) (argl 0 [err1]) w (retQ orc Tryz.f103.results.toList K)) h)

-- holloway/fault.Wrap
-- holloway/fault.Wrap: not lifted: a cell that is not known

-- holloway/fault.inner
def fault_inner_sh (err1 : Value) (w : World) (K : Value → World → Prop) : Prop :=
 ∀ (b2 : Nat) (w3 : World), b2 = w.heap.size → w3 = World.alloc w (.cells #[.int .i64 (0 : Int), .int .i64 (0 : Int)] T_fault_fault) →
 ∀ (b4 : Nat) (w5 : World), b4 = w3.heap.size → w5 = World.alloc w3 (.cells #[.pointer none] T_p_fault_fault) →
 Calls Tryz.prog fn_errors_As #[err1, .iface T_p_p_fault_fault (.pointer (some ⟨b4, 0, none⟩))] w5 fun e6 w7 => ∃ b8 : Bool, e6 = .returned (.bool b8) ∧
 brB (!b8)
 (wrOk w7 ⟨b2, 0, none⟩ 2 ∧ ∀ w9 : World, w9 = stW w7 ⟨b2, 0, none⟩ 0 [.int .i64 (0 : Int), .int .i64 (0 : Int)] →
 ∃ r_code10 : Int, ∃ r_ip11 : Int, w9.cell? ⟨b2, 0, none⟩ = some (.int .i64 r_code10) ∧ w9.cell? ⟨b2, 1, none⟩ = some (.int .i64 r_ip11) ∧
 K (.agg #[.int .i64 r_code10, .int .i64 r_ip11]) w9)
 (∃ p12 : Option Addr, w7.cell? ⟨b4, 0, none⟩ = some (.pointer p12) ∧
 nn p12 fun a13 =>
 ∃ n_code14 : Int, ∃ n_ip15 : Int, w7.cell? a13 = some (.int .i64 n_code14) ∧ w7.cell? (Addr.add a13 1) = some (.int .i64 n_ip15) ∧
 wrOk w7 ⟨b2, 0, none⟩ 2 ∧ ∀ w16 : World, w16 = stW w7 ⟨b2, 0, none⟩ 0 [.int .i64 n_code14, .int .i64 n_ip15] →
 ∃ r_code17 : Int, ∃ r_ip18 : Int, w16.cell? ⟨b2, 0, none⟩ = some (.int .i64 r_code17) ∧ w16.cell? ⟨b2, 1, none⟩ = some (.int .i64 r_ip18) ∧
 K (.agg #[.int .i64 r_code17, .int .i64 r_ip18]) w16)
def fault_inner_an : An := ⟨[], [], []⟩
theorem fault_inner_lift {err1 : Value} {w : World} {K : Value → World → Prop} (h : fault_inner_sh err1 w K) : Calls Tryz.prog fn_fault_inner #[err1] w fun e w' => ∃ v, e = .returned v ∧ K v w' :=
   lift_calls (A := fault_inner_an) (c := bodyOf Tryz.f119) (args := [err1]) orc orc_wide Tryz.func119 (by kernel_rfl) (by kernel_rfl) (Eq.mp (by kernel_rfl : fault_inner_sh err1 w K = wpc orc Tryz.f119.ntmps fault_inner_an (bodyOf Tryz.f119) (argl 0 [err1]) w (retQ orc Tryz.f119.results.toList K)) h)

-- holloway/fault.New
def fault_New_sh (code1 : Int) (ip2 : Int) (w : World) (K : Value → World → Prop) : Prop :=
 brB (code1 == (0 : Int))
 (K (.nilIface) w)
 (∀ (b3 : Nat) (w4 : World), b3 = w.heap.size → w4 = World.alloc w (.cells #[.int .i64 code1, .int .i64 ip2] T_fault_fault) →
 K (.iface T_p_fault_fault (.pointer (some ⟨b3, 0, none⟩))) w4)
def fault_New_an : An := ⟨[], [], []⟩
theorem fault_New_lift {code1 : Int} {ip2 : Int} {w : World} {K : Value → World → Prop} (h : fault_New_sh code1 ip2 w K) : Calls Tryz.prog fn_fault_New #[.int .i64 code1, .int .i64 ip2] w fun e w' => ∃ v, e = .returned v ∧ K v w' :=
   lift_calls (A := fault_New_an) (c := bodyOf Tryz.f133) (args := [.int .i64 code1, .int .i64 ip2]) orc orc_wide Tryz.func133 (by kernel_rfl) (by kernel_rfl) (Eq.mp (by kernel_rfl : fault_New_sh code1 ip2 w K = wpc orc Tryz.f133.ntmps fault_New_an (bodyOf Tryz.f133) (argl 0 [.int .i64 code1, .int .i64 ip2]) w (retQ orc Tryz.f133.results.toList K)) h)

-- (*holloway/fault.seen).Unwrap
def fault_seen_Unwrap_sh (s_1 : Nat) (w : World) (K : Value → World → Prop) : Prop :=
 ∃ v2 : Value, w.cell? ⟨s_1, 1, none⟩ = some (v2) ∧
 K (v2) w
def fault_seen_Unwrap_an : An := ⟨[], [], []⟩
theorem fault_seen_Unwrap_lift {s_1 : Nat} {w : World} {K : Value → World → Prop} (h : fault_seen_Unwrap_sh s_1 w K) : Calls Tryz.prog fn_fault_seen_Unwrap #[.pointer (some ⟨s_1, 0, none⟩)] w fun e w' => ∃ v, e = .returned v ∧ K v w' :=
   lift_calls (A := fault_seen_Unwrap_an) (c := bodyOf Tryz.f193) (args := [.pointer (some ⟨s_1, 0, none⟩)]) orc orc_wide Tryz.func193 (by kernel_rfl) (by kernel_rfl) (Eq.mp (by kernel_rfl : fault_seen_Unwrap_sh s_1 w K = wpc orc Tryz.f193.ntmps fault_seen_Unwrap_an (bodyOf Tryz.f193) (argl 0 [.pointer (some ⟨s_1, 0, none⟩)]) w (retQ orc Tryz.f193.results.toList K)) h)

-- holloway/fault.Wrap:if
def fault_Wrap_if_sh (t1 : TypeId) (v2 : Value) (word3 : ByteArray) (w : World) (K : Value → World → Prop) : Prop :=
 ∃ b4 : Bool, ∃ w5 : World, ((do eqGuard .eql T_error (.tmp 5) (.const (.nilIface)) (.iface t1 v2) (.nilIface); binOp .eql T_error (.iface t1 v2) (.nilIface) : Sem Value)).run Tryz.prog w = .ok (.bool b4) w5 ∧
 brB b4
 (K (.nilIface) w5)
 (∀ (b6 : Nat) (w7 : World), b6 = w5.heap.size → w7 = World.alloc w5 (.cells #[.string word3, .iface t1 v2] T_fault_seen) →
 K (.iface T_p_fault_seen (.pointer (some ⟨b6, 0, none⟩))) w7)
def fault_Wrap_if_an : An := ⟨[], [], []⟩
theorem fault_Wrap_if_lift {t1 : TypeId} {v2 : Value} {word3 : ByteArray} {w : World} {K : Value → World → Prop} (h : fault_Wrap_if_sh t1 v2 word3 w K) : Calls Tryz.prog fn_fault_Wrap #[.iface t1 v2, .string word3] w fun e w' => ∃ v, e = .returned v ∧ K v w' :=
   lift_calls (A := fault_Wrap_if_an) (c := bodyOf Tryz.f117) (args := [.iface t1 v2, .string word3]) orc orc_wide Tryz.func117 (by kernel_rfl) (by kernel_rfl) (Eq.mp (by kernel_rfl : fault_Wrap_if_sh t1 v2 word3 w K = wpc orc Tryz.f117.ntmps fault_Wrap_if_an (bodyOf Tryz.f117) (argl 0 [.iface t1 v2, .string word3]) w (retQ orc Tryz.f117.results.toList K)) h)

end Go.Proofs.YtkjpmkopnkkbmaaGreatDoor

/- errors.As, at the address of a *fault.fault: over a fault, and over faults that are seen from words: what it does. -/
set_option maxRecDepth 100000
namespace Go.Proofs.YtkjpmkopnkkbmaaGreatDoor
open Go.RowKit Go.Extern.Stop Go.Stop Go.Extern

theorem unwrap_any (b : Nat) (wd : ByteArray) (v : Value) (w : World) (h : Ob w b [.string wd, v] T_fault_seen) : Calls Tryz.prog 193 #[.pointer (some ⟨b, 0, none⟩)] w fun e w' => e = .returned v ∧ w' = w := by
  refine (fault_seen_Unwrap_lift (K := fun r w' => r = v ∧ w' = w) ?_).mono (by rintro e w' ⟨r, rfl, rfl, hw⟩; exact ⟨rfl, hw⟩)
  unfold fault_seen_Unwrap_sh
  exact ⟨v, h.cell rfl, rfl, rfl⟩

set_option maxHeartbeats 4000000 in
theorem as_hit0 (e : Nat)  (t : Nat) (w : World) (hg : Gl w) (ht : Ob w t [.pointer none] 156)  :
    Calls Tryz.prog 148 #[.iface 156 (.pointer (some ⟨e, 0, none⟩)), .iface 158 (.pointer (some ⟨t, 0, none⟩))] w fun ev w' => ev = .returned (.bool true) ∧ w' = ((((w.alloc (.cells #[.pointer (some ⟨t, 0, none⟩)] 158)).alloc (.cells #[.pointer (some ⟨1, 158, none⟩), .pointer (some ⟨w.heap.size, 0, none⟩), .int .u64 150] 170)).alloc (.cells #[.pointer (some ⟨1, 158, none⟩), .pointer (some ⟨w.heap.size, 0, none⟩), .int .u64 150] 170)).alloc (.cells #[.pointer (some ⟨e, 0, none⟩)] 156)).setCell ⟨t, 0, none⟩ (.pointer (some ⟨e, 0, none⟩)) := by
  have ht0 : w.cell? ⟨t, 0, none⟩ = some (.pointer none) := ht.cell rfl
  have hf0 : w.frozen? ⟨t, 0, none⟩ = false := by unfold Ob at ht; simp [World.frozen?, ht]
  have hg : w.cell? ⟨0, 0, none⟩ = some (.iface 185 (.agg #[.pointer (some ⟨1, 118, none⟩)])) := hg
  have h6 := @run_callFunc_extern Tryz.prog 162 _ (fun args => ReflectliteValue.unpack (args.getD 0 (.tuple #[]))) Tryz.func162 (by kernel_rfl) (by kernel_rfl) (by kernel_rfl) (by kernel_rfl)
  have h7 := @run_callFunc_extern Tryz.prog 163 _ (ReflectliteValue.methodAny (ReflectliteValue.valueError "reflectlite.Value.Type" 0) (fun t _ _ _ => ReflectliteType.toType t)) Tryz.func163 (by kernel_rfl) (by kernel_rfl) (by kernel_rfl) (by kernel_rfl)
  have h8 := @run_callFunc_extern Tryz.prog 164 _ (ReflectliteValue.method (ReflectliteValue.valueError "reflectlite.Value.IsNil" 0) ReflectliteValue.isNil) Tryz.func164 (by kernel_rfl) (by kernel_rfl) (by kernel_rfl) (by kernel_rfl)
  have h27 := @run_callFunc_extern Tryz.prog 189 _ (ReflectliteType.abiMethod fun t => do pure (.int .u8 (← Rtype.kind t))) Tryz.func189 (by kernel_rfl) (by kernel_rfl) (by kernel_rfl) (by kernel_rfl)
  have h37 := @run_callFunc_extern Tryz.prog 201 _ (ReflectliteType.method ReflectliteType.elem) Tryz.func201 (by kernel_rfl) (by kernel_rfl) (by kernel_rfl) (by kernel_rfl)
  have h38 := @run_callFunc_extern Tryz.prog 202 _ (ReflectliteType.relation "Implements" ReflectliteType.implements_) Tryz.func202 (by kernel_rfl) (by kernel_rfl) (by kernel_rfl) (by kernel_rfl)
  have h10 := @run_callFunc_extern Tryz.prog 172 _ ReflectliteType.typeOf Tryz.func172 (by kernel_rfl) (by kernel_rfl) (by kernel_rfl) (by kernel_rfl)
  have h35 := @run_callFunc_extern Tryz.prog 199 _ (ReflectliteType.relation "AssignableTo" ReflectliteType.assignableTo) Tryz.func199 (by kernel_rfl) (by kernel_rfl) (by kernel_rfl) (by kernel_rfl)
  have h11 := @run_callFunc_extern Tryz.prog 173 _ (ReflectliteValue.method (ReflectliteValue.valueError "reflectlite.Value.Elem" 0) ReflectliteValue.elem) Tryz.func173 (by kernel_rfl) (by kernel_rfl) (by kernel_rfl) (by kernel_rfl)
  have h12 := @run_callFunc_extern Tryz.prog 174 _ ReflectliteValue.set Tryz.func174 (by kernel_rfl) (by kernel_rfl) (by kernel_rfl) (by kernel_rfl)
  have tO := ra_typeOfF
  have tS := ra_typeOfS
  have mA := ra_methodAssignableTo
  have mU := ra_methodUnwrap
  have a25 := ra_assignableF
  have aS := ra_assignableS
  have nA := ra_noAs
  have iU := ra_isUn
  have v25 := ra_valueOfF
  have f6 := ra_valueOfFF
  have f7 := ra_typeFF
  have mK := ra_methodKind
  have mE := ra_methodElem
  have mI := ra_methodImplements
  have k27 := ra_kindFF
  have k25 := ra_kindF
  have e27 := ra_elemFF
  have i25 := ra_implementsF
  have n8 := ra_isNilFF ⟨w.heap.size, 0, none⟩ ⟨t, 0, none⟩ ((w.alloc (.cells #[.pointer (some ⟨t, 0, none⟩)] 158)).alloc (.cells #[.pointer (some ⟨1, 158, none⟩), .pointer (some ⟨w.heap.size, 0, none⟩), .int .u64 150] 170)) (by simp)
  have hlt : 0 < w.heap.size := by
    rcases Nat.eq_zero_or_pos w.heap.size with h0 | h
    · simp [World.cell?, h0] at hg
    · exact h
  have hg2 : ((w.alloc (.cells #[.pointer (some ⟨t, 0, none⟩)] 158)).alloc (.cells #[.pointer (some ⟨1, 158, none⟩), .pointer (some ⟨w.heap.size, 0, none⟩), .int .u64 150] 170)).cell? ⟨0, 0, none⟩ = some (.iface 185 (.agg #[.pointer (some ⟨1, 118, none⟩)])) := by
    rw [World.cell?_alloc_lt _ _ ⟨0, 0, none⟩ (by simp), World.cell?_alloc_lt _ _ ⟨0, 0, none⟩ hlt]; exact hg
  have htl : t < w.heap.size := ht.lt
  have el := ra_elemVFF ⟨w.heap.size, 0, none⟩ ⟨t, 0, none⟩ (((w.alloc (.cells #[.pointer (some ⟨t, 0, none⟩)] 158)).alloc (.cells #[.pointer (some ⟨1, 158, none⟩), .pointer (some ⟨w.heap.size, 0, none⟩), .int .u64 150] 170)).alloc (.cells #[.pointer (some ⟨1, 158, none⟩), .pointer (some ⟨w.heap.size, 0, none⟩), .int .u64 150] 170)) (by rw [World.cell?_alloc_lt _ _ ⟨w.heap.size, 0, none⟩ (by simp; omega)]; simp)
  have st := ra_setF ⟨t, 0, none⟩ ⟨w.heap.size + 1 + 1 + 1, 0, none⟩ ⟨e, 0, none⟩ (.pointer none) ((((w.alloc (.cells #[.pointer (some ⟨t, 0, none⟩)] 158)).alloc (.cells #[.pointer (some ⟨1, 158, none⟩), .pointer (some ⟨w.heap.size, 0, none⟩), .int .u64 150] 170)).alloc (.cells #[.pointer (some ⟨1, 158, none⟩), .pointer (some ⟨w.heap.size, 0, none⟩), .int .u64 150] 170)).alloc (.cells #[.pointer (some ⟨e, 0, none⟩)] 156))
    (by rw [World.cell?_alloc_at _ _ _ _ (by simp)]; rfl)
    (by rw [World.cell?_alloc_lt _ _ ⟨t, 0, none⟩ (by simp; omega), World.cell?_alloc_lt _ _ ⟨t, 0, none⟩ (by simp; omega), World.cell?_alloc_lt _ _ ⟨t, 0, none⟩ (by simp; omega), World.cell?_alloc_lt _ _ ⟨t, 0, none⟩ htl]; exact ht0)
    (by rw [World.frozen?_alloc_old _ _ ⟨t, 0, none⟩ (by simp; omega), World.frozen?_alloc_old _ _ ⟨t, 0, none⟩ (by simp; omega), World.frozen?_alloc_old _ _ ⟨t, 0, none⟩ (by simp; omega), World.frozen?_alloc_old _ _ ⟨t, 0, none⟩ (Nat.ne_of_lt htl)]; exact hf0)
  go_enter Tryz.func148, Tryz.ntmps148
  go_wp2
  refine wp_loop_rounds 1 ?_
  rw [rounds_succ]
  go_wp2
  go_ret
  exact ⟨rfl, rfl⟩

set_option maxHeartbeats 4000000 in
theorem as_hit1 (e : Nat) (s0 : Nat) (u0 : ByteArray) (t : Nat) (w : World) (hg : Gl w) (ht : Ob w t [.pointer none] 156) (hs0 : Ob w s0 [.string u0, .iface 156 (.pointer (some ⟨e, 0, none⟩))] T_fault_seen) :
    Calls Tryz.prog 148 #[.iface 150 (.pointer (some ⟨s0, 0, none⟩)), .iface 158 (.pointer (some ⟨t, 0, none⟩))] w fun ev w' => ev = .returned (.bool true) ∧ w' = ((((w.alloc (.cells #[.pointer (some ⟨t, 0, none⟩)] 158)).alloc (.cells #[.pointer (some ⟨1, 158, none⟩), .pointer (some ⟨w.heap.size, 0, none⟩), .int .u64 150] 170)).alloc (.cells #[.pointer (some ⟨1, 158, none⟩), .pointer (some ⟨w.heap.size, 0, none⟩), .int .u64 150] 170)).alloc (.cells #[.pointer (some ⟨e, 0, none⟩)] 156)).setCell ⟨t, 0, none⟩ (.pointer (some ⟨e, 0, none⟩)) := by
  have ht0 : w.cell? ⟨t, 0, none⟩ = some (.pointer none) := ht.cell rfl
  have hf0 : w.frozen? ⟨t, 0, none⟩ = false := by unfold Ob at ht; simp [World.frozen?, ht]
  have hg : w.cell? ⟨0, 0, none⟩ = some (.iface 185 (.agg #[.pointer (some ⟨1, 118, none⟩)])) := hg
  have h6 := @run_callFunc_extern Tryz.prog 162 _ (fun args => ReflectliteValue.unpack (args.getD 0 (.tuple #[]))) Tryz.func162 (by kernel_rfl) (by kernel_rfl) (by kernel_rfl) (by kernel_rfl)
  have h7 := @run_callFunc_extern Tryz.prog 163 _ (ReflectliteValue.methodAny (ReflectliteValue.valueError "reflectlite.Value.Type" 0) (fun t _ _ _ => ReflectliteType.toType t)) Tryz.func163 (by kernel_rfl) (by kernel_rfl) (by kernel_rfl) (by kernel_rfl)
  have h8 := @run_callFunc_extern Tryz.prog 164 _ (ReflectliteValue.method (ReflectliteValue.valueError "reflectlite.Value.IsNil" 0) ReflectliteValue.isNil) Tryz.func164 (by kernel_rfl) (by kernel_rfl) (by kernel_rfl) (by kernel_rfl)
  have h27 := @run_callFunc_extern Tryz.prog 189 _ (ReflectliteType.abiMethod fun t => do pure (.int .u8 (← Rtype.kind t))) Tryz.func189 (by kernel_rfl) (by kernel_rfl) (by kernel_rfl) (by kernel_rfl)
  have h37 := @run_callFunc_extern Tryz.prog 201 _ (ReflectliteType.method ReflectliteType.elem) Tryz.func201 (by kernel_rfl) (by kernel_rfl) (by kernel_rfl) (by kernel_rfl)
  have h38 := @run_callFunc_extern Tryz.prog 202 _ (ReflectliteType.relation "Implements" ReflectliteType.implements_) Tryz.func202 (by kernel_rfl) (by kernel_rfl) (by kernel_rfl) (by kernel_rfl)
  have h10 := @run_callFunc_extern Tryz.prog 172 _ ReflectliteType.typeOf Tryz.func172 (by kernel_rfl) (by kernel_rfl) (by kernel_rfl) (by kernel_rfl)
  have h35 := @run_callFunc_extern Tryz.prog 199 _ (ReflectliteType.relation "AssignableTo" ReflectliteType.assignableTo) Tryz.func199 (by kernel_rfl) (by kernel_rfl) (by kernel_rfl) (by kernel_rfl)
  have h11 := @run_callFunc_extern Tryz.prog 173 _ (ReflectliteValue.method (ReflectliteValue.valueError "reflectlite.Value.Elem" 0) ReflectliteValue.elem) Tryz.func173 (by kernel_rfl) (by kernel_rfl) (by kernel_rfl) (by kernel_rfl)
  have h12 := @run_callFunc_extern Tryz.prog 174 _ ReflectliteValue.set Tryz.func174 (by kernel_rfl) (by kernel_rfl) (by kernel_rfl) (by kernel_rfl)
  have tO := ra_typeOfF
  have tS := ra_typeOfS
  have mA := ra_methodAssignableTo
  have mU := ra_methodUnwrap
  have a25 := ra_assignableF
  have aS := ra_assignableS
  have nA := ra_noAs
  have iU := ra_isUn
  have v25 := ra_valueOfF
  have f6 := ra_valueOfFF
  have f7 := ra_typeFF
  have mK := ra_methodKind
  have mE := ra_methodElem
  have mI := ra_methodImplements
  have k27 := ra_kindFF
  have k25 := ra_kindF
  have e27 := ra_elemFF
  have i25 := ra_implementsF
  have n8 := ra_isNilFF ⟨w.heap.size, 0, none⟩ ⟨t, 0, none⟩ ((w.alloc (.cells #[.pointer (some ⟨t, 0, none⟩)] 158)).alloc (.cells #[.pointer (some ⟨1, 158, none⟩), .pointer (some ⟨w.heap.size, 0, none⟩), .int .u64 150] 170)) (by simp)
  have hlt : 0 < w.heap.size := by
    rcases Nat.eq_zero_or_pos w.heap.size with h0 | h
    · simp [World.cell?, h0] at hg
    · exact h
  have hg2 : ((w.alloc (.cells #[.pointer (some ⟨t, 0, none⟩)] 158)).alloc (.cells #[.pointer (some ⟨1, 158, none⟩), .pointer (some ⟨w.heap.size, 0, none⟩), .int .u64 150] 170)).cell? ⟨0, 0, none⟩ = some (.iface 185 (.agg #[.pointer (some ⟨1, 118, none⟩)])) := by
    rw [World.cell?_alloc_lt _ _ ⟨0, 0, none⟩ (by simp), World.cell?_alloc_lt _ _ ⟨0, 0, none⟩ hlt]; exact hg
  have htl : t < w.heap.size := ht.lt
  have el := ra_elemVFF ⟨w.heap.size, 0, none⟩ ⟨t, 0, none⟩ (((w.alloc (.cells #[.pointer (some ⟨t, 0, none⟩)] 158)).alloc (.cells #[.pointer (some ⟨1, 158, none⟩), .pointer (some ⟨w.heap.size, 0, none⟩), .int .u64 150] 170)).alloc (.cells #[.pointer (some ⟨1, 158, none⟩), .pointer (some ⟨w.heap.size, 0, none⟩), .int .u64 150] 170)) (by rw [World.cell?_alloc_lt _ _ ⟨w.heap.size, 0, none⟩ (by simp; omega)]; simp)
  have st := ra_setF ⟨t, 0, none⟩ ⟨w.heap.size + 1 + 1 + 1, 0, none⟩ ⟨e, 0, none⟩ (.pointer none) ((((w.alloc (.cells #[.pointer (some ⟨t, 0, none⟩)] 158)).alloc (.cells #[.pointer (some ⟨1, 158, none⟩), .pointer (some ⟨w.heap.size, 0, none⟩), .int .u64 150] 170)).alloc (.cells #[.pointer (some ⟨1, 158, none⟩), .pointer (some ⟨w.heap.size, 0, none⟩), .int .u64 150] 170)).alloc (.cells #[.pointer (some ⟨e, 0, none⟩)] 156))
    (by rw [World.cell?_alloc_at _ _ _ _ (by simp)]; rfl)
    (by rw [World.cell?_alloc_lt _ _ ⟨t, 0, none⟩ (by simp; omega), World.cell?_alloc_lt _ _ ⟨t, 0, none⟩ (by simp; omega), World.cell?_alloc_lt _ _ ⟨t, 0, none⟩ (by simp; omega), World.cell?_alloc_lt _ _ ⟨t, 0, none⟩ htl]; exact ht0)
    (by rw [World.frozen?_alloc_old _ _ ⟨t, 0, none⟩ (by simp; omega), World.frozen?_alloc_old _ _ ⟨t, 0, none⟩ (by simp; omega), World.frozen?_alloc_old _ _ ⟨t, 0, none⟩ (by simp; omega), World.frozen?_alloc_old _ _ ⟨t, 0, none⟩ (Nat.ne_of_lt htl)]; exact hf0)
  go_enter Tryz.func148, Tryz.ntmps148
  go_wp2
  refine wp_loop_rounds 2 ?_
  rw [rounds_succ]
  go_wp2_with (first | (go_at_call 193; first | (refine (unwrap_any s0 u0 _ _ (((hs0.no (al rfl)).no (al rfl)).no (al rfl))).mono ?_; rintro e w' ⟨rfl, rfl⟩)))
  rw [rounds_succ]
  go_wp2
  go_ret
  exact ⟨rfl, rfl⟩

set_option maxHeartbeats 4000000 in
theorem as_hit2 (e : Nat) (s0 : Nat) (u0 : ByteArray) (s1 : Nat) (u1 : ByteArray) (t : Nat) (w : World) (hg : Gl w) (ht : Ob w t [.pointer none] 156) (hs0 : Ob w s0 [.string u0, .iface 156 (.pointer (some ⟨e, 0, none⟩))] T_fault_seen) (hs1 : Ob w s1 [.string u1, .iface 150 (.pointer (some ⟨s0, 0, none⟩))] T_fault_seen) :
    Calls Tryz.prog 148 #[.iface 150 (.pointer (some ⟨s1, 0, none⟩)), .iface 158 (.pointer (some ⟨t, 0, none⟩))] w fun ev w' => ev = .returned (.bool true) ∧ w' = ((((w.alloc (.cells #[.pointer (some ⟨t, 0, none⟩)] 158)).alloc (.cells #[.pointer (some ⟨1, 158, none⟩), .pointer (some ⟨w.heap.size, 0, none⟩), .int .u64 150] 170)).alloc (.cells #[.pointer (some ⟨1, 158, none⟩), .pointer (some ⟨w.heap.size, 0, none⟩), .int .u64 150] 170)).alloc (.cells #[.pointer (some ⟨e, 0, none⟩)] 156)).setCell ⟨t, 0, none⟩ (.pointer (some ⟨e, 0, none⟩)) := by
  have ht0 : w.cell? ⟨t, 0, none⟩ = some (.pointer none) := ht.cell rfl
  have hf0 : w.frozen? ⟨t, 0, none⟩ = false := by unfold Ob at ht; simp [World.frozen?, ht]
  have hg : w.cell? ⟨0, 0, none⟩ = some (.iface 185 (.agg #[.pointer (some ⟨1, 118, none⟩)])) := hg
  have h6 := @run_callFunc_extern Tryz.prog 162 _ (fun args => ReflectliteValue.unpack (args.getD 0 (.tuple #[]))) Tryz.func162 (by kernel_rfl) (by kernel_rfl) (by kernel_rfl) (by kernel_rfl)
  have h7 := @run_callFunc_extern Tryz.prog 163 _ (ReflectliteValue.methodAny (ReflectliteValue.valueError "reflectlite.Value.Type" 0) (fun t _ _ _ => ReflectliteType.toType t)) Tryz.func163 (by kernel_rfl) (by kernel_rfl) (by kernel_rfl) (by kernel_rfl)
  have h8 := @run_callFunc_extern Tryz.prog 164 _ (ReflectliteValue.method (ReflectliteValue.valueError "reflectlite.Value.IsNil" 0) ReflectliteValue.isNil) Tryz.func164 (by kernel_rfl) (by kernel_rfl) (by kernel_rfl) (by kernel_rfl)
  have h27 := @run_callFunc_extern Tryz.prog 189 _ (ReflectliteType.abiMethod fun t => do pure (.int .u8 (← Rtype.kind t))) Tryz.func189 (by kernel_rfl) (by kernel_rfl) (by kernel_rfl) (by kernel_rfl)
  have h37 := @run_callFunc_extern Tryz.prog 201 _ (ReflectliteType.method ReflectliteType.elem) Tryz.func201 (by kernel_rfl) (by kernel_rfl) (by kernel_rfl) (by kernel_rfl)
  have h38 := @run_callFunc_extern Tryz.prog 202 _ (ReflectliteType.relation "Implements" ReflectliteType.implements_) Tryz.func202 (by kernel_rfl) (by kernel_rfl) (by kernel_rfl) (by kernel_rfl)
  have h10 := @run_callFunc_extern Tryz.prog 172 _ ReflectliteType.typeOf Tryz.func172 (by kernel_rfl) (by kernel_rfl) (by kernel_rfl) (by kernel_rfl)
  have h35 := @run_callFunc_extern Tryz.prog 199 _ (ReflectliteType.relation "AssignableTo" ReflectliteType.assignableTo) Tryz.func199 (by kernel_rfl) (by kernel_rfl) (by kernel_rfl) (by kernel_rfl)
  have h11 := @run_callFunc_extern Tryz.prog 173 _ (ReflectliteValue.method (ReflectliteValue.valueError "reflectlite.Value.Elem" 0) ReflectliteValue.elem) Tryz.func173 (by kernel_rfl) (by kernel_rfl) (by kernel_rfl) (by kernel_rfl)
  have h12 := @run_callFunc_extern Tryz.prog 174 _ ReflectliteValue.set Tryz.func174 (by kernel_rfl) (by kernel_rfl) (by kernel_rfl) (by kernel_rfl)
  have tO := ra_typeOfF
  have tS := ra_typeOfS
  have mA := ra_methodAssignableTo
  have mU := ra_methodUnwrap
  have a25 := ra_assignableF
  have aS := ra_assignableS
  have nA := ra_noAs
  have iU := ra_isUn
  have v25 := ra_valueOfF
  have f6 := ra_valueOfFF
  have f7 := ra_typeFF
  have mK := ra_methodKind
  have mE := ra_methodElem
  have mI := ra_methodImplements
  have k27 := ra_kindFF
  have k25 := ra_kindF
  have e27 := ra_elemFF
  have i25 := ra_implementsF
  have n8 := ra_isNilFF ⟨w.heap.size, 0, none⟩ ⟨t, 0, none⟩ ((w.alloc (.cells #[.pointer (some ⟨t, 0, none⟩)] 158)).alloc (.cells #[.pointer (some ⟨1, 158, none⟩), .pointer (some ⟨w.heap.size, 0, none⟩), .int .u64 150] 170)) (by simp)
  have hlt : 0 < w.heap.size := by
    rcases Nat.eq_zero_or_pos w.heap.size with h0 | h
    · simp [World.cell?, h0] at hg
    · exact h
  have hg2 : ((w.alloc (.cells #[.pointer (some ⟨t, 0, none⟩)] 158)).alloc (.cells #[.pointer (some ⟨1, 158, none⟩), .pointer (some ⟨w.heap.size, 0, none⟩), .int .u64 150] 170)).cell? ⟨0, 0, none⟩ = some (.iface 185 (.agg #[.pointer (some ⟨1, 118, none⟩)])) := by
    rw [World.cell?_alloc_lt _ _ ⟨0, 0, none⟩ (by simp), World.cell?_alloc_lt _ _ ⟨0, 0, none⟩ hlt]; exact hg
  have htl : t < w.heap.size := ht.lt
  have el := ra_elemVFF ⟨w.heap.size, 0, none⟩ ⟨t, 0, none⟩ (((w.alloc (.cells #[.pointer (some ⟨t, 0, none⟩)] 158)).alloc (.cells #[.pointer (some ⟨1, 158, none⟩), .pointer (some ⟨w.heap.size, 0, none⟩), .int .u64 150] 170)).alloc (.cells #[.pointer (some ⟨1, 158, none⟩), .pointer (some ⟨w.heap.size, 0, none⟩), .int .u64 150] 170)) (by rw [World.cell?_alloc_lt _ _ ⟨w.heap.size, 0, none⟩ (by simp; omega)]; simp)
  have st := ra_setF ⟨t, 0, none⟩ ⟨w.heap.size + 1 + 1 + 1, 0, none⟩ ⟨e, 0, none⟩ (.pointer none) ((((w.alloc (.cells #[.pointer (some ⟨t, 0, none⟩)] 158)).alloc (.cells #[.pointer (some ⟨1, 158, none⟩), .pointer (some ⟨w.heap.size, 0, none⟩), .int .u64 150] 170)).alloc (.cells #[.pointer (some ⟨1, 158, none⟩), .pointer (some ⟨w.heap.size, 0, none⟩), .int .u64 150] 170)).alloc (.cells #[.pointer (some ⟨e, 0, none⟩)] 156))
    (by rw [World.cell?_alloc_at _ _ _ _ (by simp)]; rfl)
    (by rw [World.cell?_alloc_lt _ _ ⟨t, 0, none⟩ (by simp; omega), World.cell?_alloc_lt _ _ ⟨t, 0, none⟩ (by simp; omega), World.cell?_alloc_lt _ _ ⟨t, 0, none⟩ (by simp; omega), World.cell?_alloc_lt _ _ ⟨t, 0, none⟩ htl]; exact ht0)
    (by rw [World.frozen?_alloc_old _ _ ⟨t, 0, none⟩ (by simp; omega), World.frozen?_alloc_old _ _ ⟨t, 0, none⟩ (by simp; omega), World.frozen?_alloc_old _ _ ⟨t, 0, none⟩ (by simp; omega), World.frozen?_alloc_old _ _ ⟨t, 0, none⟩ (Nat.ne_of_lt htl)]; exact hf0)
  go_enter Tryz.func148, Tryz.ntmps148
  go_wp2
  refine wp_loop_rounds 3 ?_
  rw [rounds_succ]
  go_wp2_with (first | (go_at_call 193; first | (refine (unwrap_any s0 u0 _ _ (((hs0.no (al rfl)).no (al rfl)).no (al rfl))).mono ?_; rintro e w' ⟨rfl, rfl⟩) | (refine (unwrap_any s1 u1 _ _ (((hs1.no (al rfl)).no (al rfl)).no (al rfl))).mono ?_; rintro e w' ⟨rfl, rfl⟩)))
  rw [rounds_succ]
  go_wp2_with (first | (go_at_call 193; first | (refine (unwrap_any s0 u0 _ _ (((hs0.no (al rfl)).no (al rfl)).no (al rfl))).mono ?_; rintro e w' ⟨rfl, rfl⟩) | (refine (unwrap_any s1 u1 _ _ (((hs1.no (al rfl)).no (al rfl)).no (al rfl))).mono ?_; rintro e w' ⟨rfl, rfl⟩)))
  rw [rounds_succ]
  go_wp2
  go_ret
  exact ⟨rfl, rfl⟩
end Go.Proofs.YtkjpmkopnkkbmaaGreatDoor

/- Faults: made, seen from words, their codes. -/
set_option maxRecDepth 100000
namespace Go.Proofs.YtkjpmkopnkkbmaaGreatDoor
open Go.RowKit

theorem eq_nil (x : Operand) (w : World) : ((do eqGuard .eql T_error x (.const .nilIface) .nilIface .nilIface; binOp .eql T_error .nilIface .nilIface : Sem Value)).run Tryz.prog w = .ok (.bool true) w := by
  cases x <;> kernel_rfl
theorem ne_nil (x : Operand) (w : World) : ((do eqGuard .neq T_error x (.const .nilIface) .nilIface .nilIface; binOp .neq T_error .nilIface .nilIface : Sem Value)).run Tryz.prog w = .ok (.bool false) w := by
  cases x <;> kernel_rfl
theorem eq_if (x : Operand) (t : TypeId) (v : Value) (w : World) : ((do eqGuard .eql T_error x (.const .nilIface) (.iface t v) .nilIface; binOp .eql T_error (.iface t v) .nilIface : Sem Value)).run Tryz.prog w = .ok (.bool false) w := by
  kernel_rfl
theorem ne_if (x : Operand) (t : TypeId) (v : Value) (w : World) : ((do eqGuard .neq T_error x (.const .nilIface) (.iface t v) .nilIface; binOp .neq T_error (.iface t v) .nilIface : Sem Value)).run Tryz.prog w = .ok (.bool true) w := by
  kernel_rfl
def ErrD (lo : Nat) (w : World) : Nat → Value → Int → Prop
  | 0, v, c => ∃ (e : Nat) (ip : Int), lo ≤ e ∧ v = .iface T_p_fault_fault (.pointer (some ⟨e, 0, none⟩)) ∧ Ob w e [.int .i64 c, .int .i64 ip] T_fault_fault
  | d + 1, v, c => ∃ (s : Nat) (u : ByteArray) (v' : Value), lo ≤ s ∧ v = .iface T_p_fault_seen (.pointer (some ⟨s, 0, none⟩)) ∧ Ob w s [.string u, v'] T_fault_seen ∧ ErrD lo w d v' c
theorem ErrD.chg {lo : Nat} {S : Nat → Prop} {w w' : World} : ∀ {d : Nat} {v : Value} {c : Int}, ErrD lo w d v c → Chg S w w' → (∀ k, lo ≤ k → ¬ S k) → ErrD lo w' d v c
  | 0, _, _, ⟨e, ip, h1, h2, h3⟩, c, hS => ⟨e, ip, h1, h2, h3.chg c (hS e h1)⟩
  | _ + 1, _, _, ⟨s, u, v', h1, h2, h3, h4⟩, c, hS => ⟨s, u, v', h1, h2, h3.chg c (hS s h1), h4.chg c hS⟩
theorem ErrD.no {lo : Nat} {w w' : World} {d : Nat} {v : Value} {c : Int} (h : ErrD lo w d v c) (k : Chg No w w') : ErrD lo w' d v c := h.chg k (fun _ _ h => h)
theorem ErrD.if {lo : Nat} {w : World} : ∀ {d : Nat} {v : Value} {c : Int}, ErrD lo w d v c → ∃ (t : TypeId) (u : Value), v = .iface t u
  | 0, _, _, ⟨_, _, _, h2, _⟩ => ⟨_, _, h2⟩
  | _ + 1, _, _, ⟨_, _, _, _, h2, _⟩ => ⟨_, _, h2⟩
theorem ErrD.lo {lo lo' : Nat} {w : World} (hl : lo' ≤ lo) : ∀ {d : Nat} {v : Value} {c : Int}, ErrD lo w d v c → ErrD lo' w d v c
  | 0, _, _, ⟨e, ip, h1, h2, h3⟩ => ⟨e, ip, by omega, h2, h3⟩
  | _ + 1, _, _, ⟨s, u, v', h1, h2, h3, h4⟩ => ⟨s, u, v', by omega, h2, h3, h4.lo hl⟩
theorem new_any (c ip : Int) (hc : c ≠ 0) (w : World) : Calls Tryz.prog fn_fault_New #[.int .i64 c, .int .i64 ip] w fun e w' => ∃ v : Value, e = .returned v ∧ ErrD w.heap.size w' 0 v c ∧ Chg No w w' := by
  refine (fault_New_lift (K := fun r w' => ErrD w.heap.size w' 0 r c ∧ Chg No w w') ?_).mono (by rintro e w' ⟨r, rfl, h⟩; exact ⟨r, rfl, h⟩)
  unfold fault_New_sh
  refine brB_of (fun h => absurd (by simpa using h) hc) (fun _ => ?_)
  intro b w1 hb hw
  have c1 : Chg No w w1 := by rw [hw]; exact Chg.alloc _ _ _
  exact ⟨⟨b, ip, by omega, rfl, by rw [hw, hb]; exact Ob.new w [.int .i64 c, .int .i64 ip] T_fault_fault⟩, c1⟩
theorem new_none (ip : Int) (w : World) : Calls Tryz.prog fn_fault_New #[.int .i64 0, .int .i64 ip] w fun e w' => e = .returned .nilIface ∧ w' = w := by
  refine (fault_New_lift (K := fun r w' => r = .nilIface ∧ w' = w) ?_).mono (by rintro e w' ⟨r, rfl, rfl, h⟩; exact ⟨rfl, h⟩)
  unfold fault_New_sh
  exact brB_t ⟨rfl, rfl⟩
theorem wrap_any {lo : Nat} {w : World} {d : Nat} {v : Value} {c : Int} (h : ErrD lo w d v c) (hl : lo ≤ w.heap.size) (u : ByteArray) : Calls Tryz.prog fn_fault_Wrap #[v, .string u] w fun e w' => ∃ v' : Value, e = .returned v' ∧ ErrD lo w' (d + 1) v' c ∧ Chg No w w' := by
  obtain ⟨t, x, rfl⟩ := h.if
  refine (fault_Wrap_if_lift (K := fun r w' => ErrD lo w' (d + 1) r c ∧ Chg No w w') ?_).mono (by rintro e w' ⟨r, rfl, h⟩; exact ⟨r, rfl, h⟩)
  unfold fault_Wrap_if_sh
  refine ⟨_, _, eq_if _ _ _ _, brB_f ?_⟩
  intro b w1 hb hw
  have c1 : Chg No w w1 := by rw [hw]; exact Chg.alloc _ _ _
  exact ⟨⟨b, u, .iface t x, by omega, rfl, by rw [hw, hb]; exact Ob.new w [.string u, .iface t x] T_fault_seen, h.no c1⟩, c1⟩
theorem as_any {lo : Nat} {w0 w : World} {d : Nat} {v : Value} {c : Int} (hd : d ≤ 2) (hg : Gl w) (h : ErrD lo w0 d v c) (c0 : Chg No w0 w) {t : Nat} (ht : Ob w t [.pointer none] T_p_fault_fault) (hlt : w0.heap.size ≤ t) :
    Calls Tryz.prog fn_errors_As #[v, .iface T_p_p_fault_fault (.pointer (some ⟨t, 0, none⟩))] w fun ev w' => ∃ (e : Nat) (ip : Int), ev = .returned (.bool true) ∧ Ob w' e [.int .i64 c, .int .i64 ip] T_fault_fault ∧ Ob w' t [.pointer (some ⟨e, 0, none⟩)] T_p_fault_fault ∧ Chg (fun k => k = t) w w' := by
  have fin : ∀ (e : Nat) (ip : Int) (w4 w' : World), Ob w0 e [.int .i64 c, .int .i64 ip] T_fault_fault → Chg No w w4 → w' = w4.setCell ⟨t, 0, none⟩ (.pointer (some ⟨e, 0, none⟩)) →
      Ob w' e [.int .i64 c, .int .i64 ip] T_fault_fault ∧ Ob w' t [.pointer (some ⟨e, 0, none⟩)] T_p_fault_fault ∧ Chg (fun k => k = t) w w' := fun e ip w4 w' he c4 hw' => by
    have hle := he.lt
    have hw2 : w' = stW w4 ⟨t, 0, none⟩ 0 [.pointer (some ⟨e, 0, none⟩)] := by
      rw [hw']; show _ = stW (w4.setCell ((⟨t, 0, none⟩ : Addr).add 0) _) _ _ _; rw [add0]; rfl
    obtain ⟨o1, c1⟩ := (ht.no c4).up (k := 0) (vs := [.pointer (some ⟨e, 0, none⟩)]) (cs' := [.pointer (some ⟨e, 0, none⟩)]) (by simp) rfl hw2
    exact ⟨((he.no c0).no c4).chg c1 (fun hh => by omega), o1, c4.trans c1 (fun _ _ h => h.elim) (fun _ _ h => h)⟩
  have h4 : ∀ {o1 o2 o3 o4 : Obj}, Chg No w ((((w.alloc o1).alloc o2).alloc o3).alloc o4) := fun {_ _ _ _} => trN (trN (trN (al rfl) (al rfl)) (al rfl)) (al rfl)
  rcases d with _ | _ | _ | d
  · obtain ⟨e, ip, _, rfl, h3⟩ := h
    refine (as_hit0 e t w hg ht).mono ?_
    rintro ev w' ⟨rfl, hw'⟩
    obtain ⟨f1, f2, f3⟩ := fin e ip _ w' h3 h4 hw'
    exact ⟨e, ip, rfl, f1, f2, f3⟩
  · obtain ⟨s0, u0, v0, _, rfl, k0, e, ip, _, rfl, h3⟩ := h
    refine (as_hit1 e s0 u0 t w hg ht (k0.no c0)).mono ?_
    rintro ev w' ⟨rfl, hw'⟩
    obtain ⟨f1, f2, f3⟩ := fin e ip _ w' h3 h4 hw'
    exact ⟨e, ip, rfl, f1, f2, f3⟩
  · obtain ⟨s1, u1, v1, _, rfl, k1, s0, u0, v0, _, rfl, k0, e, ip, _, rfl, h3⟩ := h
    refine (as_hit2 e s0 u0 s1 u1 t w hg ht (k0.no c0) (k1.no c0)).mono ?_
    rintro ev w' ⟨rfl, hw'⟩
    obtain ⟨f1, f2, f3⟩ := fin e ip _ w' h3 h4 hw'
    exact ⟨e, ip, rfl, f1, f2, f3⟩
  · omega
theorem Gl.chg {S : Nat → Prop} {w w' : World} (h : Gl w) (c : Chg S w w') (hS : ¬ S 0) : Gl w' := c.cell h hS
theorem Gl.lt {w : World} (h : Gl w) : 0 < w.heap.size := by
  rcases Nat.eq_zero_or_pos w.heap.size with h0 | h1
  · unfold Gl at h; simp [World.cell?, h0] at h
  · exact h1
theorem finner_any {lo : Nat} {w : World} {d : Nat} {v : Value} {c : Int} (hd : d ≤ 2) (hg : Gl w) (h : ErrD lo w d v c) : Calls Tryz.prog fn_fault_inner #[v] w fun e w' => ∃ ip : Int, e = .returned (.agg #[.int .i64 c, .int .i64 ip]) ∧ Chg No w w' := by
  refine (fault_inner_lift (K := fun r w' => ∃ ip : Int, r = .agg #[.int .i64 c, .int .i64 ip] ∧ Chg No w w') ?_).mono (by rintro e w' ⟨r, rfl, ip, rfl, h⟩; exact ⟨ip, rfl, h⟩)
  unfold fault_inner_sh
  intro b2 w3 hb2 hw3 b4 w5 hb4 hw5
  have c3 := al hw3
  have c5 := al hw5
  have z3 : w3.heap.size = w.heap.size + 1 := by rw [hw3]; simp
  have k5 := trN c3 c5
  have o2 : Ob w5 b2 [.int .i64 0, .int .i64 0] T_fault_fault := by
    have : Ob w3 b2 [.int .i64 0, .int .i64 0] T_fault_fault := by rw [hw3, hb2]; exact Ob.new w [.int .i64 0, .int .i64 0] T_fault_fault
    exact this.no c5
  have o4 : Ob w5 b4 [.pointer none] T_p_fault_fault := by rw [hw5, hb4]; exact Ob.new w3 [.pointer none] T_p_fault_fault
  refine (as_any hd (hg.chg k5 (fun h => h)) h k5 o4 (by omega)).mono ?_
  rintro ev w7 ⟨e, ip, rfl, oe, ot, c7⟩
  refine ⟨true, rfl, brB_f ⟨_, ot.cell rfl, ?_⟩⟩
  show nn (some (⟨e, 0, none⟩ : Addr)) _
  unfold nn
  have p2 := o2.chg c7 (fun he => by omega)
  refine ⟨c, ip, oe.cell rfl, ?_, p2.wr (by simp), fun w16 hw16 => ?_⟩
  · rw [add_mk]; exact oe.cell rfl
  obtain ⟨q2, c16⟩ := p2.up (k := 0) (vs := [.int .i64 c, .int .i64 ip]) (cs' := [.int .i64 c, .int .i64 ip]) (by simp) rfl hw16
  exact ⟨c, ip, q2.cell rfl, q2.cell rfl, ip, rfl, (k5.trans c7 (fun _ _ h => h) (fun k hk he => by omega)).trans c16 (fun _ _ h => h) (fun k hk he => by omega)⟩
theorem code_any {lo : Nat} {w : World} {d : Nat} {v : Value} {c : Int} (hd : d ≤ 2) (hg : Gl w) (h : ErrD lo w d v c) : Calls Tryz.prog fn_fault_Code #[v] w fun e w' => e = .returned (.int .i64 c) ∧ Chg No w w' := by
  refine (fault_Code_lift (K := fun r w' => r = .int .i64 c ∧ Chg No w w') ?_).mono (by rintro e w' ⟨r, rfl, rfl, h⟩; exact ⟨rfl, h⟩)
  unfold fault_Code_sh
  refine (finner_any hd hg h).mono ?_
  rintro e w' ⟨ip, rfl, c1⟩
  exact ⟨c, ip, rfl, rfl, c1⟩
end Go.Proofs.YtkjpmkopnkkbmaaGreatDoor
