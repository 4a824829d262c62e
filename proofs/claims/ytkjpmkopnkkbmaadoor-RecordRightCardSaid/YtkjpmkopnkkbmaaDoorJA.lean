/- The lifted texts of the package hollowaybook. -/
import Derived.Test.YtkjpmkopnkkbmaaDoorJ4

/- Functions of Hollowaybook, read without their frames; that each is enough. Printed by a program of mine (wip/lift/gen.py). -/
set_option maxRecDepth 100000
namespace Go.Proofs.YtkjpmkopnkkbmaaDoor
open Go.RowKit

-- holloway/hollowaybook.SameState
def hollowaybook_SameState_sh (a__Ip1 : Int) (a__Handler2 : Int) (a__Stack3 : Sl) (a__Back4 : Sl) (a__Mem5 : Sl) (a__Out6 : ByteArray) (a__In7 : ByteArray) (a__Read8 : Int) (a__Status9 : Int) (a__Code10 : Int) (b__Ip11 : Int) (b__Handler12 : Int) (b__Stack13 : Sl) (b__Back14 : Sl) (b__Mem15 : Sl) (b__Out16 : ByteArray) (b__In17 : ByteArray) (b__Read18 : Int) (b__Status19 : Int) (b__Code20 : Int) (w : World) (K : Value → World → Prop) : Prop :=
 ∀ (b21 : Nat) (w22 : World), b21 = w.heap.size → w22 = World.alloc w (.cells #[.int .i64 a__Ip1, .int .i64 a__Handler2, a__Stack3.val, a__Back4.val, a__Mem5.val, .string a__Out6, .string a__In7, .int .i64 a__Read8, .int .i64 a__Status9, .int .i64 a__Code10] T_api_State) →
 ∀ (b23 : Nat) (w24 : World), b23 = w22.heap.size → w24 = World.alloc w22 (.cells #[.int .i64 b__Ip11, .int .i64 b__Handler12, b__Stack13.val, b__Back14.val, b__Mem15.val, .string b__Out16, .string b__In17, .int .i64 b__Read18, .int .i64 b__Status19, .int .i64 b__Code20] T_api_State) →
 ∃ n25 : Int, w24.cell? ⟨b21, 0, none⟩ = some (.int .i64 n25) ∧
 ∃ n26 : Int, w24.cell? ⟨b23, 0, none⟩ = some (.int .i64 n26) ∧
 brB (n25 == n26)
 (∃ n27 : Int, w24.cell? ⟨b21, 1, none⟩ = some (.int .i64 n27) ∧
 ∃ n28 : Int, w24.cell? ⟨b23, 1, none⟩ = some (.int .i64 n28) ∧
 brB (n27 == n28)
 (∃ s29 : Sl, w24.cell? ⟨b21, 2, none⟩ = some (s29.val) ∧
 ∃ s30 : Sl, w24.cell? ⟨b23, 2, none⟩ = some (s30.val) ∧
 Calls Tryd.prog fn_hollowaybook_SameInts #[s29.val, s30.val] w24 fun e31 w32 => ∃ b33 : Bool, e31 = .returned (.bool b33) ∧
 brB b33
 (∃ s34 : Sl, w32.cell? ⟨b21, 3, none⟩ = some (s34.val) ∧
 ∃ s35 : Sl, w32.cell? ⟨b23, 3, none⟩ = some (s35.val) ∧
 Calls Tryd.prog fn_hollowaybook_SameInts #[s34.val, s35.val] w32 fun e36 w37 => ∃ b38 : Bool, e36 = .returned (.bool b38) ∧
 brB b38
 (∃ s39 : Sl, w37.cell? ⟨b21, 4, none⟩ = some (s39.val) ∧
 ∃ s40 : Sl, w37.cell? ⟨b23, 4, none⟩ = some (s40.val) ∧
 Calls Tryd.prog fn_hollowaybook_SameInts #[s39.val, s40.val] w37 fun e41 w42 => ∃ b43 : Bool, e41 = .returned (.bool b43) ∧
 brB b43
 (∃ t44 : ByteArray, w42.cell? ⟨b21, 5, none⟩ = some (.string t44) ∧
 ∃ t45 : ByteArray, w42.cell? ⟨b23, 5, none⟩ = some (.string t45) ∧
 brB (t44.toList == t45.toList)
 (∃ t46 : ByteArray, w42.cell? ⟨b21, 6, none⟩ = some (.string t46) ∧
 ∃ t47 : ByteArray, w42.cell? ⟨b23, 6, none⟩ = some (.string t47) ∧
 brB (t46.toList == t47.toList)
 (∃ n48 : Int, w42.cell? ⟨b21, 7, none⟩ = some (.int .i64 n48) ∧
 ∃ n49 : Int, w42.cell? ⟨b23, 7, none⟩ = some (.int .i64 n49) ∧
 brB (n48 == n49)
 (∃ n50 : Int, w42.cell? ⟨b21, 8, none⟩ = some (.int .i64 n50) ∧
 ∃ n51 : Int, w42.cell? ⟨b23, 8, none⟩ = some (.int .i64 n51) ∧
 brB (n50 == n51)
 (∃ n52 : Int, w42.cell? ⟨b21, 9, none⟩ = some (.int .i64 n52) ∧
 ∃ n53 : Int, w42.cell? ⟨b23, 9, none⟩ = some (.int .i64 n53) ∧
 K (.bool (n52 == n53)) w42)
 (K (.bool false) w42))
 (K (.bool false) w42))
 (K (.bool false) w42))
 (K (.bool false) w42))
 (K (.bool false) w42))
 (K (.bool false) w37))
 (K (.bool false) w32))
 (K (.bool false) w24))
 (K (.bool false) w24)
def hollowaybook_SameState_an : An := ⟨[], [], []⟩
theorem hollowaybook_SameState_lift {a__Ip1 : Int} {a__Handler2 : Int} {a__Stack3 : Sl} {a__Back4 : Sl} {a__Mem5 : Sl} {a__Out6 : ByteArray} {a__In7 : ByteArray} {a__Read8 : Int} {a__Status9 : Int} {a__Code10 : Int} {b__Ip11 : Int} {b__Handler12 : Int} {b__Stack13 : Sl} {b__Back14 : Sl} {b__Mem15 : Sl} {b__Out16 : ByteArray} {b__In17 : ByteArray} {b__Read18 : Int} {b__Status19 : Int} {b__Code20 : Int} {w : World} {K : Value → World → Prop} (h : hollowaybook_SameState_sh a__Ip1 a__Handler2 a__Stack3 a__Back4 a__Mem5 a__Out6 a__In7 a__Read8 a__Status9 a__Code10 b__Ip11 b__Handler12 b__Stack13 b__Back14 b__Mem15 b__Out16 b__In17 b__Read18 b__Status19 b__Code20 w K) : Calls Tryd.prog fn_hollowaybook_SameState #[.agg #[.int .i64 a__Ip1, .int .i64 a__Handler2, a__Stack3.val, a__Back4.val, a__Mem5.val, .string a__Out6, .string a__In7, .int .i64 a__Read8, .int .i64 a__Status9, .int .i64 a__Code10], .agg #[.int .i64 b__Ip11, .int .i64 b__Handler12, b__Stack13.val, b__Back14.val, b__Mem15.val, .string b__Out16, .string b__In17, .int .i64 b__Read18, .int .i64 b__Status19, .int .i64 b__Code20]] w fun e w' => ∃ v, e = .returned v ∧ K v w' :=
   lift_calls (A := hollowaybook_SameState_an) (c := bodyOf Tryd.f16) (args := [.agg #[.int .i64 a__Ip1, .int .i64 a__Handler2, a__Stack3.val, a__Back4.val, a__Mem5.val, .string a__Out6, .string a__In7, .int .i64 a__Read8, .int .i64 a__Status9, .int .i64 a__Code10], .agg #[.int .i64 b__Ip11, .int .i64 b__Handler12, b__Stack13.val, b__Back14.val, b__Mem15.val, .string b__Out16, .string b__In17, .int .i64 b__Read18, .int .i64 b__Status19, .int .i64 b__Code20]]) orc orc_wide Tryd.func16 (by kernel_rfl) (by kernel_rfl) (Eq.mp (by kernel_rfl : hollowaybook_SameState_sh a__Ip1 a__Handler2 a__Stack3 a__Back4 a__Mem5 a__Out6 a__In7 a__Read8 a__Status9 a__Code10 b__Ip11 b__Handler12 b__Stack13 b__Back14 b__Mem15 b__Out16 b__In17 b__Read18 b__Status19 b__Code20 w K = wpc orc Tryd.f16.ntmps hollowaybook_SameState_an (bodyOf Tryd.f16) (argl 0 [.agg #[.int .i64 a__Ip1, .int .i64 a__Handler2, a__Stack3.val, a__Back4.val, a__Mem5.val, .string a__Out6, .string a__In7, .int .i64 a__Read8, .int .i64 a__Status9, .int .i64 a__Code10], .agg #[.int .i64 b__Ip11, .int .i64 b__Handler12, b__Stack13.val, b__Back14.val, b__Mem15.val, .string b__Out16, .string b__In17, .int .i64 b__Read18, .int .i64 b__Status19, .int .i64 b__Code20]]) w (retQ orc Tryd.f16.results.toList K)) h)

-- holloway/hollowaybook.SameInts
def hollowaybook_SameInts_sh (a_1 : Sl) (b_2 : Sl) (w : World) (K : Value → World → Prop) : Prop :=
 brB ((a_1.len : Int) != (b_2.len : Int))
 (K (.bool false) w)
 (∃ (I1 : Int → World → Prop) (μ1 : Int → World → Nat), I1 (0 : Int) w ∧ ∀ (i4 : Int) (w3 : World), I1 i4 w3 →
 brB (decide (i4 < (a_1.len : Int)))
 (∀ w5 : World, w5 = World.drew w3 →
 ∃ a6 : Addr, a_1.ptr = some a6 ∧ 0 ≤ i4 ∧ i4 < (a_1.len : Int) ∧
 ∃ n7 : Int, held (Lw w5) (Addr.add a6 (Int.toNat i4 * 1)) (.int .i64 n7) ∧
 ∃ a8 : Addr, b_2.ptr = some a8 ∧ 0 ≤ i4 ∧ i4 < (b_2.len : Int) ∧
 ∃ n9 : Int, held (Lw w5) (Addr.add a8 (Int.toNat i4 * 1)) (.int .i64 n9) ∧
 brB (!(n7 == n9))
 (K (.bool false) w5)
 (I1 (wr (i4 + (1 : Int))) w5 ∧ μ1 (wr (i4 + (1 : Int))) w5 < μ1 i4 w3))
 (K (.bool true) w3))
def hollowaybook_SameInts_an : An := ⟨[(4, [(5, .int .i64)])], [(6, (10, .st 0 (.st 1 (.st 2 (.st 3 (.st 4 (.st 5 (.st 6 (.st 7 (.st 8 (.st 9 .done))))))))), 0))], []⟩
theorem hollowaybook_SameInts_lift {a_1 : Sl} {b_2 : Sl} {w : World} {K : Value → World → Prop} (h : hollowaybook_SameInts_sh a_1 b_2 w K) : Calls Tryd.prog fn_hollowaybook_SameInts #[a_1.val, b_2.val] w fun e w' => ∃ v, e = .returned v ∧ K v w' :=
   lift_calls (A := hollowaybook_SameInts_an) (c := bodyOf Tryd.f18) (args := [a_1.val, b_2.val]) orc orc_wide Tryd.func18 (by kernel_rfl) (by kernel_rfl) (Eq.mp (by kernel_rfl : hollowaybook_SameInts_sh a_1 b_2 w K = wpc orc Tryd.f18.ntmps hollowaybook_SameInts_an (bodyOf Tryd.f18) (argl 0 [a_1.val, b_2.val]) w (retQ orc Tryd.f18.results.toList K)) h)

-- holloway/hollowaybook.LentSeens
def hollowaybook_LentSeens_sh (l_1 : Sl) (w : World) (K : Value → World → Prop) : Prop :=
 Calls Tryd.prog fn_hollowaybook_copySeens #[l_1.val] w fun e2 w3 => ∃ s4 : Sl, e2 = .returned (s4.val) ∧
 ∀ (b5 : Nat) (w6 : World), b5 = w3.heap.size → w6 = World.alloc w3 (.cells #[.int .i64 (-77 : Int), .int .i64 (0 : Int), .int .i64 (0 : Int), .int .i64 (0 : Int)] T_api_Seen) →
 ∃ s7 : Sl, ∃ w8 : World, (Builtin.append_ #[T_sl_api_Seen, T_sl_api_Seen] T_sl_api_Seen #[s4.val, .slice (some ⟨b5, 0, none⟩) 1 1]).run Tryd.prog w6 = .ok (s7.val) w8 ∧
 0 ≤ (l_1.len : Int) ∧ (l_1.len : Int) ≤ (s7.cap : Int) ∧ ∀ s9 : Sl, s9 = Sl.sub s7.ptr s7.cap 0 (Int.toNat (l_1.len : Int)) 4 →
 K (s9.val) w8
def hollowaybook_LentSeens_an : An := ⟨[], [], []⟩
theorem hollowaybook_LentSeens_lift {l_1 : Sl} {w : World} {K : Value → World → Prop} (h : hollowaybook_LentSeens_sh l_1 w K) : Calls Tryd.prog fn_hollowaybook_LentSeens #[l_1.val] w fun e w' => ∃ v, e = .returned v ∧ K v w' :=
   lift_calls (A := hollowaybook_LentSeens_an) (c := bodyOf Tryd.f23) (args := [l_1.val]) orc orc_wide Tryd.func23 (by kernel_rfl) (by kernel_rfl) (Eq.mp (by kernel_rfl : hollowaybook_LentSeens_sh l_1 w K = wpc orc Tryd.f23.ntmps hollowaybook_LentSeens_an (bodyOf Tryd.f23) (argl 0 [l_1.val]) w (retQ orc Tryd.f23.results.toList K)) h)

-- holloway/hollowaybook.StaysSeens
def hollowaybook_StaysSeens_sh (m_1 : Sl) (was2 : Sl) (w : World) (K : Value → World → Prop) : Prop :=
 Calls Tryd.prog fn_hollowaybook_SameSeens #[m_1.val, was2.val] w fun e3 w4 => ∃ b5 : Bool, e3 = .returned (.bool b5) ∧
 brB b5
 (0 ≤ (wr ((m_1.len : Int) + (1 : Int))) ∧ (wr ((m_1.len : Int) + (1 : Int))) ≤ (m_1.cap : Int) ∧ ∀ s6 : Sl, s6 = Sl.sub m_1.ptr m_1.cap 0 (Int.toNat (wr ((m_1.len : Int) + (1 : Int)))) 4 →
 ∃ a7 : Addr, s6.ptr = some a7 ∧ 0 ≤ (m_1.len : Int) ∧ (m_1.len : Int) < (s6.len : Int) ∧
 ∃ n8 : Int, w4.cell? (Addr.add a7 (Int.toNat (m_1.len : Int) * 4)) = some (.int .i64 n8) ∧
 K (.bool (n8 == (-77 : Int))) w4)
 (K (.bool false) w4)
def hollowaybook_StaysSeens_an : An := ⟨[], [], []⟩
theorem hollowaybook_StaysSeens_lift {m_1 : Sl} {was2 : Sl} {w : World} {K : Value → World → Prop} (h : hollowaybook_StaysSeens_sh m_1 was2 w K) : Calls Tryd.prog fn_hollowaybook_StaysSeens #[m_1.val, was2.val] w fun e w' => ∃ v, e = .returned v ∧ K v w' :=
   lift_calls (A := hollowaybook_StaysSeens_an) (c := bodyOf Tryd.f26) (args := [m_1.val, was2.val]) orc orc_wide Tryd.func26 (by kernel_rfl) (by kernel_rfl) (Eq.mp (by kernel_rfl : hollowaybook_StaysSeens_sh m_1 was2 w K = wpc orc Tryd.f26.ntmps hollowaybook_StaysSeens_an (bodyOf Tryd.f26) (argl 0 [m_1.val, was2.val]) w (retQ orc Tryd.f26.results.toList K)) h)

-- holloway/hollowaybook.SameSeens
def hollowaybook_SameSeens_sh (a_1 : Sl) (b_2 : Sl) (w : World) (K : Value → World → Prop) : Prop :=
 brB ((a_1.len : Int) != (b_2.len : Int))
 (K (.bool false) w)
 (∃ (I1 : Int → World → Prop) (μ1 : Int → World → Nat), I1 (0 : Int) w ∧ ∀ (i4 : Int) (w3 : World), I1 i4 w3 →
 brB (decide (i4 < (a_1.len : Int)))
 (∀ w5 : World, w5 = World.drew w3 →
 ∃ a6 : Addr, a_1.ptr = some a6 ∧ 0 ≤ i4 ∧ i4 < (a_1.len : Int) ∧
 ∃ n_Ip7 : Int, ∃ n_Cell8 : Int, ∃ n_Arg9 : Int, ∃ n_Next10 : Int, held (Lw w5) (Addr.add a6 (Int.toNat i4 * 4)) (.int .i64 n_Ip7) ∧ held (Lw w5) (Addr.add (Addr.add a6 (Int.toNat i4 * 4)) 1) (.int .i64 n_Cell8) ∧ held (Lw w5) (Addr.add (Addr.add a6 (Int.toNat i4 * 4)) 2) (.int .i64 n_Arg9) ∧ held (Lw w5) (Addr.add (Addr.add a6 (Int.toNat i4 * 4)) 3) (.int .i64 n_Next10) ∧
 ∃ a11 : Addr, b_2.ptr = some a11 ∧ 0 ≤ i4 ∧ i4 < (b_2.len : Int) ∧
 ∃ n_Ip12 : Int, ∃ n_Cell13 : Int, ∃ n_Arg14 : Int, ∃ n_Next15 : Int, held (Lw w5) (Addr.add a11 (Int.toNat i4 * 4)) (.int .i64 n_Ip12) ∧ held (Lw w5) (Addr.add (Addr.add a11 (Int.toNat i4 * 4)) 1) (.int .i64 n_Cell13) ∧ held (Lw w5) (Addr.add (Addr.add a11 (Int.toNat i4 * 4)) 2) (.int .i64 n_Arg14) ∧ held (Lw w5) (Addr.add (Addr.add a11 (Int.toNat i4 * 4)) 3) (.int .i64 n_Next15) ∧
 ∃ b16 : Bool, ∃ w17 : World, ((do eqGuard .eql T_api_Seen (.tmp 20) (.tmp 24) (.agg #[.int .i64 n_Ip7, .int .i64 n_Cell8, .int .i64 n_Arg9, .int .i64 n_Next10]) (.agg #[.int .i64 n_Ip12, .int .i64 n_Cell13, .int .i64 n_Arg14, .int .i64 n_Next15]); binOp .eql T_api_Seen (.agg #[.int .i64 n_Ip7, .int .i64 n_Cell8, .int .i64 n_Arg9, .int .i64 n_Next10]) (.agg #[.int .i64 n_Ip12, .int .i64 n_Cell13, .int .i64 n_Arg14, .int .i64 n_Next15]) : Sem Value)).run Tryd.prog w5 = .ok (.bool b16) w17 ∧
 brB (!b16)
 (K (.bool false) w17)
 (I1 (wr (i4 + (1 : Int))) w17 ∧ μ1 (wr (i4 + (1 : Int))) w17 < μ1 i4 w3))
 (K (.bool true) w3))
def hollowaybook_SameSeens_an : An := ⟨[(4, [(5, .int .i64)])], [(6, (8, .st 0 (.st 1 (.st 2 (.st 3 (.st 4 (.st 5 (.st 6 (.st 7 .done))))))), 0))], []⟩
theorem hollowaybook_SameSeens_lift {a_1 : Sl} {b_2 : Sl} {w : World} {K : Value → World → Prop} (h : hollowaybook_SameSeens_sh a_1 b_2 w K) : Calls Tryd.prog fn_hollowaybook_SameSeens #[a_1.val, b_2.val] w fun e w' => ∃ v, e = .returned v ∧ K v w' :=
   lift_calls (A := hollowaybook_SameSeens_an) (c := bodyOf Tryd.f28) (args := [a_1.val, b_2.val]) orc orc_wide Tryd.func28 (by kernel_rfl) (by kernel_rfl) (Eq.mp (by kernel_rfl : hollowaybook_SameSeens_sh a_1 b_2 w K = wpc orc Tryd.f28.ntmps hollowaybook_SameSeens_an (bodyOf Tryd.f28) (argl 0 [a_1.val, b_2.val]) w (retQ orc Tryd.f28.results.toList K)) h)

-- holloway/hollowaybook.copySeens
def hollowaybook_copySeens_sh (l_1 : Sl) (w : World) (K : Value → World → Prop) : Prop :=
 ∃ s2 : Sl, ∃ w3 : World, (Builtin.append_ #[T_sl_api_Seen, T_sl_api_Seen] T_sl_api_Seen #[.slice none 0 0, l_1.val]).run Tryd.prog w = .ok (s2.val) w3 ∧
 K (s2.val) w3
def hollowaybook_copySeens_an : An := ⟨[], [], []⟩
theorem hollowaybook_copySeens_lift {l_1 : Sl} {w : World} {K : Value → World → Prop} (h : hollowaybook_copySeens_sh l_1 w K) : Calls Tryd.prog fn_hollowaybook_copySeens #[l_1.val] w fun e w' => ∃ v, e = .returned v ∧ K v w' :=
   lift_calls (A := hollowaybook_copySeens_an) (c := bodyOf Tryd.f36) (args := [l_1.val]) orc orc_wide Tryd.func36 (by kernel_rfl) (by kernel_rfl) (Eq.mp (by kernel_rfl : hollowaybook_copySeens_sh l_1 w K = wpc orc Tryd.f36.ntmps hollowaybook_copySeens_an (bodyOf Tryd.f36) (argl 0 [l_1.val]) w (retQ orc Tryd.f36.results.toList K)) h)

end Go.Proofs.YtkjpmkopnkkbmaaDoor
