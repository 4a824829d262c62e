/- Functions of Strings, read without their frames; that each is enough. Printed by a program of mine (wip/lift/gen.py). -/
import Derived.Test.YtijoigpggphajaaOrc
set_option maxRecDepth 100000
namespace Go.Proofs.Ytijoigpggphajaa
open Go.RowKit

-- strings.Clone
def strings_Clone_sh (s_1 : ByteArray) (w : World) (K : Value → World → Prop) : Prop :=
 Calls Try.prog fn_internal_stringslite_Clone #[.string s_1] w fun e2 w3 => ∃ t4 : ByteArray, e2 = .returned (.string t4) ∧
 K (.string t4) w3
def strings_Clone_an : An := ⟨[], [], []⟩
theorem strings_Clone_lift {s_1 : ByteArray} {w : World} {K : Value → World → Prop} (h : strings_Clone_sh s_1 w K) : Calls Try.prog fn_strings_Clone #[.string s_1] w fun e w' => ∃ v, e = .returned v ∧ K v w' :=
   lift_calls (A := strings_Clone_an) (c := bodyOf Try.f90) (args := [.string s_1]) orc orc_wide Try.func90 (by kernel_rfl) (by kernel_rfl) (Eq.mp (by kernel_rfl : strings_Clone_sh s_1 w K = wpc orc Try.f90.ntmps strings_Clone_an (bodyOf Try.f90) (argl 0 [.string s_1]) w (retQ orc Try.f90.results.toList K)) h)

end Go.Proofs.Ytijoigpggphajaa
