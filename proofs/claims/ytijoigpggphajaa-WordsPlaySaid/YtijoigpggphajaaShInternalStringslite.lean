/- Functions of InternalStringslite, read without their frames; that each is enough. Printed by a program of mine (wip/lift/gen.py). -/
import Derived.Test.YtijoigpggphajaaOrc
set_option maxRecDepth 100000
namespace Go.Proofs.Ytijoigpggphajaa
open Go.RowKit

-- internal/stringslite.Clone
def internal_stringslite_Clone_sh (s_1 : ByteArray) (w : World) (K : Value → World → Prop) : Prop :=
 brB ((s_1.size : Int) == (0 : Int))
 (K (.string (bs [])) w)
 (∃ s2 : Sl, ∃ w3 : World, (Instr.makeSlice T_sl_uint8 (.int .i64 (s_1.size : Int)) (.int .i64 (s_1.size : Int))).run Try.prog w = .ok s2.val w3 ∧
 ∃ n4 : Int, ∃ w5 : World, (Builtin.copy_ #[T_sl_uint8, T_string] T_int #[s2.val, .string s_1]).run Try.prog w3 = .ok (.int .i64 n4) w5 ∧
 ∃ a6 : Addr, s2.ptr = some a6 ∧ 0 ≤ (0 : Int) ∧ (0 : Int) < (s2.len : Int) ∧
 ∃ t7 : ByteArray, ∃ w8 : World, (Builtin.unsafeString_ #[T_p_uint8, T_int] T_string #[.pointer (some (Addr.add a6 (Int.toNat (0 : Int) * 1))), .int .i64 (s2.len : Int)]).run Try.prog w5 = .ok (.string t7) w8 ∧
 K (.string t7) w8)
def internal_stringslite_Clone_an : An := ⟨[], [], []⟩
theorem internal_stringslite_Clone_lift {s_1 : ByteArray} {w : World} {K : Value → World → Prop} (h : internal_stringslite_Clone_sh s_1 w K) : Calls Try.prog fn_internal_stringslite_Clone #[.string s_1] w fun e w' => ∃ v, e = .returned v ∧ K v w' :=
   lift_calls (A := internal_stringslite_Clone_an) (c := bodyOf Try.f115) (args := [.string s_1]) orc orc_wide Try.func115 (by kernel_rfl) (by kernel_rfl) (Eq.mp (by kernel_rfl : internal_stringslite_Clone_sh s_1 w K = wpc orc Try.f115.ntmps internal_stringslite_Clone_an (bodyOf Try.f115) (argl 0 [.string s_1]) w (retQ orc Try.f115.results.toList K)) h)

end Go.Proofs.Ytijoigpggphajaa
