/- The lifted texts of the package hollowaybook. -/
import Derived.Test.YtblmoilneiffgaaJ4

/- Functions of Hollowaybook, read without their frames; that each is enough. Printed by a program of mine (wip/lift/gen.py). -/
set_option maxRecDepth 100000
namespace Go.Proofs.Ytblmoilneiffgaa
open Go.RowKit

-- holloway/hollowaybook.SameState
def hollowaybook_SameState_sh (a__Ip1 : Int) (a__Handler2 : Int) (a__Stack3 : Sl) (a__Back4 : Sl) (a__Mem5 : Sl) (a__Out6 : ByteArray) (a__In7 : ByteArray) (a__Read8 : Int) (a__Status9 : Int) (a__Code10 : Int) (b__Ip11 : Int) (b__Handler12 : Int) (b__Stack13 : Sl) (b__Back14 : Sl) (b__Mem15 : Sl) (b__Out16 : ByteArray) (b__In17 : ByteArray) (b__Read18 : Int) (b__Status19 : Int) (b__Code20 : Int) (w : World) (K : Value → World → Prop) : Prop :=
 ∀ (b21 : Nat) (w22 : World), b21 = w.heap.size → w22 = World.alloc w (.cells #[.int .i64 a__Ip1, .int .i64 a__Handler2, a__Stack3.val, a__Back4.val, a__Mem5.val, .string a__Out6, .string a__In7, .int .i64 a__Read8, .int .i64 a__Status9, .int .i64 a__Code10] T_api_State) →
 ∀ (b23 : Nat) (w24 : World), b23 = w22.heap.size → w24 = World.alloc w22 (.cells #[.int .i64 b__Ip11, .int .i64 b__Handler12, b__Stack13.val, b__Back14.val, b__Mem15.val, .string b__Out16, .string b__In17, .int .i64 b__Read18, .int .i64 b__Status19, .int .i64 b__Code20] T_api_State) →
 ∃ n25 : Int, w24.cell? ⟨b21, 0, none⟩ = some (.int .i64 n25) ∧
 ∃ n26 : Int, w24.cell? ⟨b23, 0, none⟩ = some (.int .i64 n26) ∧
 brB (n25 == n26)
 (∃ n27 : Int, w24.cell? ⟨b21, 1, none⟩ = some (.int .i64 n27) ∧
 ∃ n28 : Int, w24.cell? ⟨b23, 1, none⟩ = some (.int .i64 n28) ∧
 brB (n27 == n28)
 (∃ s29 : Sl, w24.cell? ⟨b21, 2, none⟩ = some (s29.val) ∧
 ∃ s30 : Sl, w24.cell? ⟨b23, 2, none⟩ = some (s30.val) ∧
 Calls Try.prog fn_hollowaybook_SameInts #[s29.val, s30.val] w24 fun e31 w32 => ∃ b33 : Bool, e31 = .returned (.bool b33) ∧
 brB b33
 (∃ s34 : Sl, w32.cell? ⟨b21, 3, none⟩ = some (s34.val) ∧
 ∃ s35 : Sl, w32.cell? ⟨b23, 3, none⟩ = some (s35.val) ∧
 Calls Try.prog fn_hollowaybook_SameInts #[s34.val, s35.val] w32 fun e36 w37 => ∃ b38 : Bool, e36 = .returned (.bool b38) ∧
 brB b38
 (∃ s39 : Sl, w37.cell? ⟨b21, 4, none⟩ = some (s39.val) ∧
 ∃ s40 : Sl, w37.cell? ⟨b23, 4, none⟩ = some (s40.val) ∧
 Calls Try.prog fn_hollowaybook_SameInts #[s39.val, s40.val] w37 fun e41 w42 => ∃ b43 : Bool, e41 = .returned (.bool b43) ∧
 brB b43
 (∃ t44 : ByteArray, w42.cell? ⟨b21, 5, none⟩ = some (.string t44) ∧
 ∃ t45 : ByteArray, w42.cell? ⟨b23, 5, none⟩ = some (.string t45) ∧
 brB (t44.toList == t45.toList)
 (∃ t46 : ByteArray, w42.cell? ⟨b21, 6, none⟩ = some (.string t46) ∧
 ∃ t47 : ByteArray, w42.cell? ⟨b23, 6, none⟩ = some (.string t47) ∧
 brB (t46.toList == t47.toList)
 (∃ n48 : Int, w42.cell? ⟨b21, 7, none⟩ = some (.int .i64 n48) ∧
 ∃ n49 : Int, w42.cell? ⟨b23, 7, none⟩ = some (.int .i64 n49) ∧
 brB (n48 == n49)
 (∃ n50 : Int, w42.cell? ⟨b21, 8, none⟩ = some (.int .i64 n50) ∧
 ∃ n51 : Int, w42.cell? ⟨b23, 8, none⟩ = some (.int .i64 n51) ∧
 brB (n50 == n51)
 (∃ n52 : Int, w42.cell? ⟨b21, 9, none⟩ = some (.int .i64 n52) ∧
 ∃ n53 : Int, w42.cell? ⟨b23, 9, none⟩ = some (.int .i64 n53) ∧
 K (.bool (n52 == n53)) w42)
 (K (.bool false) w42))
 (K (.bool false) w42))
 (K (.bool false) w42))
 (K (.bool false) w42))
 (K (.bool false) w42))
 (K (.bool false) w37))
 (K (.bool false) w32))
 (K (.bool false) w24))
 (K (.bool false) w24)
def hollowaybook_SameState_an : An := ⟨[], [], []⟩
theorem hollowaybook_SameState_lift {a__Ip1 : Int} {a__Handler2 : Int} {a__Stack3 : Sl} {a__Back4 : Sl} {a__Mem5 : Sl} {a__Out6 : ByteArray} {a__In7 : ByteArray} {a__Read8 : Int} {a__Status9 : Int} {a__Code10 : Int} {b__Ip11 : Int} {b__Handler12 : Int} {b__Stack13 : Sl} {b__Back14 : Sl} {b__Mem15 : Sl} {b__Out16 : ByteArray} {b__In17 : ByteArray} {b__Read18 : Int} {b__Status19 : Int} {b__Code20 : Int} {w : World} {K : Value → World → Prop} (h : hollowaybook_SameState_sh a__Ip1 a__Handler2 a__Stack3 a__Back4 a__Mem5 a__Out6 a__In7 a__Read8 a__Status9 a__Code10 b__Ip11 b__Handler12 b__Stack13 b__Back14 b__Mem15 b__Out16 b__In17 b__Read18 b__Status19 b__Code20 w K) : Calls Try.prog fn_hollowaybook_SameState #[.agg #[.int .i64 a__Ip1, .int .i64 a__Handler2, a__Stack3.val, a__Back4.val, a__Mem5.val, .string a__Out6, .string a__In7, .int .i64 a__Read8, .int .i64 a__Status9, .int .i64 a__Code10], .agg #[.int .i64 b__Ip11, .int .i64 b__Handler12, b__Stack13.val, b__Back14.val, b__Mem15.val, .string b__Out16, .string b__In17, .int .i64 b__Read18, .int .i64 b__Status19, .int .i64 b__Code20]] w fun e w' => ∃ v, e = .returned v ∧ K v w' :=
   lift_calls (A := hollowaybook_SameState_an) (c := bodyOf Try.f22) (args := [.agg #[.int .i64 a__Ip1, .int .i64 a__Handler2, a__Stack3.val, a__Back4.val, a__Mem5.val, .string a__Out6, .string a__In7, .int .i64 a__Read8, .int .i64 a__Status9, .int .i64 a__Code10], .agg #[.int .i64 b__Ip11, .int .i64 b__Handler12, b__Stack13.val, b__Back14.val, b__Mem15.val, .string b__Out16, .string b__In17, .int .i64 b__Read18, .int .i64 b__Status19, .int .i64 b__Code20]]) orc orc_wide Try.func22 (by kernel_rfl) (by kernel_rfl) (Eq.mp (by kernel_rfl : hollowaybook_SameState_sh a__Ip1 a__Handler2 a__Stack3 a__Back4 a__Mem5 a__Out6 a__In7 a__Read8 a__Status9 a__Code10 b__Ip11 b__Handler12 b__Stack13 b__Back14 b__Mem15 b__Out16 b__In17 b__Read18 b__Status19 b__Code20 w K = wpc orc Try.f22.ntmps hollowaybook_SameState_an (bodyOf Try.f22) (argl 0 [.agg #[.int .i64 a__Ip1, .int .i64 a__Handler2, a__Stack3.val, a__Back4.val, a__Mem5.val, .string a__Out6, .string a__In7, .int .i64 a__Read8, .int .i64 a__Status9, .int .i64 a__Code10], .agg #[.int .i64 b__Ip11, .int .i64 b__Handler12, b__Stack13.val, b__Back14.val, b__Mem15.val, .string b__Out16, .string b__In17, .int .i64 b__Read18, .int .i64 b__Status19, .int .i64 b__Code20]]) w (retQ orc Try.f22.results.toList K)) h)

-- holloway/hollowaybook.SameInts
def hollowaybook_SameInts_sh (a_1 : Sl) (b_2 : Sl) (w : World) (K : Value → World → Prop) : Prop :=
 brB ((a_1.len : Int) != (b_2.len : Int))
 (K (.bool false) w)
 (∃ (I1 : Int → World → Prop) (μ1 : Int → World → Nat), I1 (0 : Int) w ∧ ∀ (i4 : Int) (w3 : World), I1 i4 w3 →
 brB (decide (i4 < (a_1.len : Int)))
 (∀ w5 : World, w5 = World.drew w3 →
 ∃ a6 : Addr, a_1.ptr = some a6 ∧ 0 ≤ i4 ∧ i4 < (a_1.len : Int) ∧
 ∃ n7 : Int, held (Lw w5) (Addr.add a6 (Int.toNat i4 * 1)) (.int .i64 n7) ∧
 ∃ a8 : Addr, b_2.ptr = some a8 ∧ 0 ≤ i4 ∧ i4 < (b_2.len : Int) ∧
 ∃ n9 : Int, held (Lw w5) (Addr.add a8 (Int.toNat i4 * 1)) (.int .i64 n9) ∧
 brB (!(n7 == n9))
 (K (.bool false) w5)
 (I1 (wr (i4 + (1 : Int))) w5 ∧ μ1 (wr (i4 + (1 : Int))) w5 < μ1 i4 w3))
 (K (.bool true) w3))
def hollowaybook_SameInts_an : An := ⟨[(4, [(5, .int .i64)])], [(6, (10, .st 0 (.st 1 (.st 2 (.st 3 (.st 4 (.st 5 (.st 6 (.st 7 (.st 8 (.st 9 .done))))))))), 0))], []⟩
theorem hollowaybook_SameInts_lift {a_1 : Sl} {b_2 : Sl} {w : World} {K : Value → World → Prop} (h : hollowaybook_SameInts_sh a_1 b_2 w K) : Calls Try.prog fn_hollowaybook_SameInts #[a_1.val, b_2.val] w fun e w' => ∃ v, e = .returned v ∧ K v w' :=
   lift_calls (A := hollowaybook_SameInts_an) (c := bodyOf Try.f24) (args := [a_1.val, b_2.val]) orc orc_wide Try.func24 (by kernel_rfl) (by kernel_rfl) (Eq.mp (by kernel_rfl : hollowaybook_SameInts_sh a_1 b_2 w K = wpc orc Try.f24.ntmps hollowaybook_SameInts_an (bodyOf Try.f24) (argl 0 [a_1.val, b_2.val]) w (retQ orc Try.f24.results.toList K)) h)

-- holloway/hollowaybook.LentTrace
-- holloway/hollowaybook.SameTrace
-- holloway/hollowaybook.StaysTrace
-- (*holloway/hollowaybook.Book).Trace
-- (*holloway/hollowaybook.Book).Apart
-- holloway/hollowaybook.LentCodes
-- holloway/hollowaybook.LentExits
-- holloway/hollowaybook.LentInts
-- holloway/hollowaybook.SameCodes
-- holloway/hollowaybook.SameExits
-- holloway/hollowaybook.StaysCodes
-- holloway/hollowaybook.StaysExits
-- holloway/hollowaybook.StaysInts
-- (*holloway/hollowaybook.Book).Codes
-- (*holloway/hollowaybook.Book).Exits
-- (*holloway/hollowaybook.Book).Ints
-- (*holloway/hollowaybook.Book).stillTexts
-- (*holloway/hollowaybook.Book).stillInts
-- (*holloway/hollowaybook.Book).stillWords
-- (*holloway/hollowaybook.Book).stillSeens
-- (*holloway/hollowaybook.Book).stillCodes
-- (*holloway/hollowaybook.Book).stillExits
-- (*holloway/hollowaybook.Book).putExits
-- (*holloway/hollowaybook.Book).putTexts
-- (*holloway/hollowaybook.Book).putInts
-- (*holloway/hollowaybook.Book).putWords
-- (*holloway/hollowaybook.Book).putSeens
-- (*holloway/hollowaybook.Book).putCodes
-- (*holloway/hollowaybook.Book).growTexts
-- (*holloway/hollowaybook.Book).growInts
-- (*holloway/hollowaybook.Book).growWords
-- (*holloway/hollowaybook.Book).growSeens
-- (*holloway/hollowaybook.Book).growCodes
-- (*holloway/hollowaybook.Book).growExits
-- holloway/hollowaybook.markedTexts
-- holloway/hollowaybook.markedInts
-- holloway/hollowaybook.markedWords
-- holloway/hollowaybook.markedSeens
-- holloway/hollowaybook.markedCodes
-- holloway/hollowaybook.markedExits
-- holloway/hollowaybook.copyCodes
-- holloway/hollowaybook.copyExits
-- holloway/hollowaybook.copyInts
-- holloway/hollowaybook.SameTexts
-- holloway/hollowaybook.SameWords
-- holloway/hollowaybook.SameSeens
-- holloway/hollowaybook.markExits
-- holloway/hollowaybook.markTexts
-- holloway/hollowaybook.markInts
-- holloway/hollowaybook.markWords
-- holloway/hollowaybook.markSeens
-- holloway/hollowaybook.markCodes
-- holloway/hollowaybook.name
end Go.Proofs.Ytblmoilneiffgaa
