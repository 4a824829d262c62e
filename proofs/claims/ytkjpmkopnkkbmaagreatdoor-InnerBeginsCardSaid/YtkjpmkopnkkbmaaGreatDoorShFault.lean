/- Functions of Fault, read without their frames; that each is enough. Printed by a program of mine (wip/lift/gen.py). -/
import Derived.Test.YtkjpmkopnkkbmaaGreatDoorOrc
set_option maxRecDepth 100000
namespace Go.Proofs.YtkjpmkopnkkbmaaGreatDoor
open Go.RowKit

-- holloway/fault.Code
def fault_Code_sh (err1 : Value) (w : World) (K : Value → World → Prop) : Prop :=
 Calls Tryz.prog fn_fault_inner #[err1] w fun e2 w3 => ∃ n_code4 : Int, ∃ n_ip5 : Int, e2 = .returned (.agg #[.int .i64 n_code4, .int .i64 n_ip5]) ∧
 K (.int .i64 n_code4) w3
def fault_Code_an : An := ⟨[], [], []⟩
theorem fault_Code_lift {err1 : Value} {w : World} {K : Value → World → Prop} (h : fault_Code_sh err1 w K) : Calls Tryz.prog fn_fault_Code #[err1] w fun e w' => ∃ v, e = .returned v ∧ K v w' :=
   lift_calls (A := fault_Code_an) (c := bodyOf Tryz.f103) (args := [err1]) orc orc_wide Tryz.func103 (by kernel_rfl) (by kernel_rfl) (Eq.mp (by kernel_rfl : fault_Code_sh err1 w K = wpc orc Tryz.f103.ntmps fault_Code_an (bodyOf Tryz.f103) (argl 0 [err1]) w (retQ orc Tryz.f103.results.toList K)) h)

-- holloway/fault.Wrap
-- holloway/fault.Wrap: not lifted: a cell that is not known

-- holloway/fault.inner
def fault_inner_sh (err1 : Value) (w : World) (K : Value → World → Prop) : Prop :=
 ∀ (b2 : Nat) (w3 : World), b2 = w.heap.size → w3 = World.alloc w (.cells #[.int .i64 (0 : Int), .int .i64 (0 : Int)] T_fault_fault) →
 ∀ (b4 : Nat) (w5 : World), b4 = w3.heap.size → w5 = World.alloc w3 (.cells #[.pointer none] T_p_fault_fault) →
 Calls Tryz.prog fn_errors_As #[err1, .iface T_p_p_fault_fault (.pointer (some ⟨b4, 0, none⟩))] w5 fun e6 w7 => ∃ b8 : Bool, e6 = .returned (.bool b8) ∧
 brB (!b8)
 (wrOk w7 ⟨b2, 0, none⟩ 2 ∧ ∀ w9 : World, w9 = stW w7 ⟨b2, 0, none⟩ 0 [.int .i64 (0 : Int), .int .i64 (0 : Int)] →
 ∃ r_code10 : Int, ∃ r_ip11 : Int, w9.cell? ⟨b2, 0, none⟩ = some (.int .i64 r_code10) ∧ w9.cell? ⟨b2, 1, none⟩ = some (.int .i64 r_ip11) ∧
 K (.agg #[.int .i64 r_code10, .int .i64 r_ip11]) w9)
 (∃ p12 : Option Addr, w7.cell? ⟨b4, 0, none⟩ = some (.pointer p12) ∧
 nn p12 fun a13 =>
 ∃ n_code14 : Int, ∃ n_ip15 : Int, w7.cell? a13 = some (.int .i64 n_code14) ∧ w7.cell? (Addr.add a13 1) = some (.int .i64 n_ip15) ∧
 wrOk w7 ⟨b2, 0, none⟩ 2 ∧ ∀ w16 : World, w16 = stW w7 ⟨b2, 0, none⟩ 0 [.int .i64 n_code14, .int .i64 n_ip15] →
 ∃ r_code17 : Int, ∃ r_ip18 : Int, w16.cell? ⟨b2, 0, none⟩ = some (.int .i64 r_code17) ∧ w16.cell? ⟨b2, 1, none⟩ = some (.int .i64 r_ip18) ∧
 K (.agg #[.int .i64 r_code17, .int .i64 r_ip18]) w16)
def fault_inner_an : An := ⟨[], [], []⟩
theorem fault_inner_lift {err1 : Value} {w : World} {K : Value → World → Prop} (h : fault_inner_sh err1 w K) : Calls Tryz.prog fn_fault_inner #[err1] w fun e w' => ∃ v, e = .returned v ∧ K v w' :=
   lift_calls (A := fault_inner_an) (c := bodyOf Tryz.f119) (args := [err1]) orc orc_wide Tryz.func119 (by kernel_rfl) (by kernel_rfl) (Eq.mp (by kernel_rfl : fault_inner_sh err1 w K = wpc orc Tryz.f119.ntmps fault_inner_an (bodyOf Tryz.f119) (argl 0 [err1]) w (retQ orc Tryz.f119.results.toList K)) h)

-- holloway/fault.New
def fault_New_sh (code1 : Int) (ip2 : Int) (w : World) (K : Value → World → Prop) : Prop :=
 brB (code1 == (0 : Int))
 (K (.nilIface) w)
 (∀ (b3 : Nat) (w4 : World), b3 = w.heap.size → w4 = World.alloc w (.cells #[.int .i64 code1, .int .i64 ip2] T_fault_fault) →
 K (.iface T_p_fault_fault (.pointer (some ⟨b3, 0, none⟩))) w4)
def fault_New_an : An := ⟨[], [], []⟩
theorem fault_New_lift {code1 : Int} {ip2 : Int} {w : World} {K : Value → World → Prop} (h : fault_New_sh code1 ip2 w K) : Calls Tryz.prog fn_fault_New #[.int .i64 code1, .int .i64 ip2] w fun e w' => ∃ v, e = .returned v ∧ K v w' :=
   lift_calls (A := fault_New_an) (c := bodyOf Tryz.f133) (args := [.int .i64 code1, .int .i64 ip2]) orc orc_wide Tryz.func133 (by kernel_rfl) (by kernel_rfl) (Eq.mp (by kernel_rfl : fault_New_sh code1 ip2 w K = wpc orc Tryz.f133.ntmps fault_New_an (bodyOf Tryz.f133) (argl 0 [.int .i64 code1, .int .i64 ip2]) w (retQ orc Tryz.f133.results.toList K)) h)

-- (*holloway/fault.seen).Unwrap
def fault_seen_Unwrap_sh (s_1 : Nat) (w : World) (K : Value → World → Prop) : Prop :=
 ∃ v2 : Value, w.cell? ⟨s_1, 1, none⟩ = some (v2) ∧
 K (v2) w
def fault_seen_Unwrap_an : An := ⟨[], [], []⟩
theorem fault_seen_Unwrap_lift {s_1 : Nat} {w : World} {K : Value → World → Prop} (h : fault_seen_Unwrap_sh s_1 w K) : Calls Tryz.prog fn_fault_seen_Unwrap #[.pointer (some ⟨s_1, 0, none⟩)] w fun e w' => ∃ v, e = .returned v ∧ K v w' :=
   lift_calls (A := fault_seen_Unwrap_an) (c := bodyOf Tryz.f193) (args := [.pointer (some ⟨s_1, 0, none⟩)]) orc orc_wide Tryz.func193 (by kernel_rfl) (by kernel_rfl) (Eq.mp (by kernel_rfl : fault_seen_Unwrap_sh s_1 w K = wpc orc Tryz.f193.ntmps fault_seen_Unwrap_an (bodyOf Tryz.f193) (argl 0 [.pointer (some ⟨s_1, 0, none⟩)]) w (retQ orc Tryz.f193.results.toList K)) h)

-- holloway/fault.Wrap:if
def fault_Wrap_if_sh (t1 : TypeId) (v2 : Value) (word3 : ByteArray) (w : World) (K : Value → World → Prop) : Prop :=
 ∃ b4 : Bool, ∃ w5 : World, ((do eqGuard .eql T_error (.tmp 5) (.const (.nilIface)) (.iface t1 v2) (.nilIface); binOp .eql T_error (.iface t1 v2) (.nilIface) : Sem Value)).run Tryz.prog w = .ok (.bool b4) w5 ∧
 brB b4
 (K (.nilIface) w5)
 (∀ (b6 : Nat) (w7 : World), b6 = w5.heap.size → w7 = World.alloc w5 (.cells #[.string word3, .iface t1 v2] T_fault_seen) →
 K (.iface T_p_fault_seen (.pointer (some ⟨b6, 0, none⟩))) w7)
def fault_Wrap_if_an : An := ⟨[], [], []⟩
theorem fault_Wrap_if_lift {t1 : TypeId} {v2 : Value} {word3 : ByteArray} {w : World} {K : Value → World → Prop} (h : fault_Wrap_if_sh t1 v2 word3 w K) : Calls Tryz.prog fn_fault_Wrap #[.iface t1 v2, .string word3] w fun e w' => ∃ v, e = .returned v ∧ K v w' :=
   lift_calls (A := fault_Wrap_if_an) (c := bodyOf Tryz.f117) (args := [.iface t1 v2, .string word3]) orc orc_wide Tryz.func117 (by kernel_rfl) (by kernel_rfl) (Eq.mp (by kernel_rfl : fault_Wrap_if_sh t1 v2 word3 w K = wpc orc Tryz.f117.ntmps fault_Wrap_if_an (bodyOf Tryz.f117) (argl 0 [.iface t1 v2, .string word3]) w (retQ orc Tryz.f117.results.toList K)) h)

end Go.Proofs.YtkjpmkopnkkbmaaGreatDoor
