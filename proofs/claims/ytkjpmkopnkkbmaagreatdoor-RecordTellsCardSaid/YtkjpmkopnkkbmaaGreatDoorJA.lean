/- The lifted texts of the package hollowaybook. -/
import Derived.Test.YtkjpmkopnkkbmaaGreatDoorJ4

/- Functions of Hollowaybook, read without their frames; that each is enough. Printed by a program of mine (wip/lift/gen.py). -/
set_option maxRecDepth 100000
namespace Go.Proofs.YtkjpmkopnkkbmaaGreatDoor
open Go.RowKit

def hollowaybook_Book_State_sh (b_1 : Nat) (s2 : Int) (s3 : Int) (s4 : Sl) (s5 : Sl) (s6 : Sl) (s7 : ByteArray) (s8 : ByteArray) (s9 : Int) (s10 : Int) (s11 : Int) (w : World) (K : Value → World → Prop) : Prop :=
 ∀ (b12 : Nat) (w13 : World), b12 = w.heap.size → w13 = World.alloc w (.cells #[.int .i64 s2, .int .i64 s3, s4.val, s5.val, s6.val, .string s7, .string s8, .int .i64 s9, .int .i64 s10, .int .i64 s11] T_api_State) →
 ∃ s14 : Sl, w13.cell? ⟨b12, 2, none⟩ = some (s14.val) ∧
 Calls Tryz.prog fn_hollowaybook_Book_Ints #[.pointer (some ⟨b_1, 0, none⟩), s14.val] w13 fun e15 w16 => e15 = .returned (.tuple #[]) ∧
 ∃ s17 : Sl, w16.cell? ⟨b12, 3, none⟩ = some (s17.val) ∧
 Calls Tryz.prog fn_hollowaybook_Book_Ints #[.pointer (some ⟨b_1, 0, none⟩), s17.val] w16 fun e18 w19 => e18 = .returned (.tuple #[]) ∧
 ∃ s20 : Sl, w19.cell? ⟨b12, 4, none⟩ = some (s20.val) ∧
 Calls Tryz.prog fn_hollowaybook_Book_Ints #[.pointer (some ⟨b_1, 0, none⟩), s20.val] w19 fun e21 w22 => e21 = .returned (.tuple #[]) ∧
 K (.tuple #[]) w22
def hollowaybook_Book_State_an : An := ⟨[], [], []⟩
theorem hollowaybook_Book_State_lift {b_1 : Nat} {s2 : Int} {s3 : Int} {s4 : Sl} {s5 : Sl} {s6 : Sl} {s7 : ByteArray} {s8 : ByteArray} {s9 : Int} {s10 : Int} {s11 : Int} {w : World} {K : Value → World → Prop} (h : hollowaybook_Book_State_sh b_1 s2 s3 s4 s5 s6 s7 s8 s9 s10 s11 w K) : Calls Tryz.prog fn_hollowaybook_Book_State #[.pointer (some ⟨b_1, 0, none⟩), .agg #[.int .i64 s2, .int .i64 s3, s4.val, s5.val, s6.val, .string s7, .string s8, .int .i64 s9, .int .i64 s10, .int .i64 s11]] w fun e w' => ∃ v, e = .returned v ∧ K v w' :=
   lift_calls (A := hollowaybook_Book_State_an) (c := bodyOf Tryz.f10) (args := [.pointer (some ⟨b_1, 0, none⟩), .agg #[.int .i64 s2, .int .i64 s3, s4.val, s5.val, s6.val, .string s7, .string s8, .int .i64 s9, .int .i64 s10, .int .i64 s11]]) orc orc_wide Tryz.func10 (by kernel_rfl) (by kernel_rfl) (Eq.mp (by kernel_rfl : hollowaybook_Book_State_sh b_1 s2 s3 s4 s5 s6 s7 s8 s9 s10 s11 w K = wpc orc Tryz.f10.ntmps hollowaybook_Book_State_an (bodyOf Tryz.f10) (argl 0 [.pointer (some ⟨b_1, 0, none⟩), .agg #[.int .i64 s2, .int .i64 s3, s4.val, s5.val, s6.val, .string s7, .string s8, .int .i64 s9, .int .i64 s10, .int .i64 s11]]) w (retQ orc Tryz.f10.results.toList K)) h)

def hollowaybook_SameState_sh (a1 : Int) (a2 : Int) (a3 : Sl) (a4 : Sl) (a5 : Sl) (a6 : ByteArray) (a7 : ByteArray) (a8 : Int) (a9 : Int) (a10 : Int) (b11 : Int) (b12 : Int) (b13 : Sl) (b14 : Sl) (b15 : Sl) (b16 : ByteArray) (b17 : ByteArray) (b18 : Int) (b19 : Int) (b20 : Int) (w : World) (K : Value → World → Prop) : Prop :=
 ∀ (b21 : Nat) (w22 : World), b21 = w.heap.size → w22 = World.alloc w (.cells #[.int .i64 a1, .int .i64 a2, a3.val, a4.val, a5.val, .string a6, .string a7, .int .i64 a8, .int .i64 a9, .int .i64 a10] T_api_State) →
 ∀ (b23 : Nat) (w24 : World), b23 = w22.heap.size → w24 = World.alloc w22 (.cells #[.int .i64 b11, .int .i64 b12, b13.val, b14.val, b15.val, .string b16, .string b17, .int .i64 b18, .int .i64 b19, .int .i64 b20] T_api_State) →
 ∃ n25 : Int, w24.cell? ⟨b21, 0, none⟩ = some (.int .i64 n25) ∧
 ∃ n26 : Int, w24.cell? ⟨b23, 0, none⟩ = some (.int .i64 n26) ∧
 brB (n25 == n26)
 (∃ n27 : Int, w24.cell? ⟨b21, 1, none⟩ = some (.int .i64 n27) ∧
 ∃ n28 : Int, w24.cell? ⟨b23, 1, none⟩ = some (.int .i64 n28) ∧
 brB (n27 == n28)
 (∃ s29 : Sl, w24.cell? ⟨b21, 2, none⟩ = some (s29.val) ∧
 ∃ s30 : Sl, w24.cell? ⟨b23, 2, none⟩ = some (s30.val) ∧
 Calls Tryz.prog fn_hollowaybook_SameInts #[s29.val, s30.val] w24 fun e31 w32 => ∃ b33 : Bool, e31 = .returned (.bool b33) ∧
 brB b33
 (∃ s34 : Sl, w32.cell? ⟨b21, 3, none⟩ = some (s34.val) ∧
 ∃ s35 : Sl, w32.cell? ⟨b23, 3, none⟩ = some (s35.val) ∧
 Calls Tryz.prog fn_hollowaybook_SameInts #[s34.val, s35.val] w32 fun e36 w37 => ∃ b38 : Bool, e36 = .returned (.bool b38) ∧
 brB b38
 (∃ s39 : Sl, w37.cell? ⟨b21, 4, none⟩ = some (s39.val) ∧
 ∃ s40 : Sl, w37.cell? ⟨b23, 4, none⟩ = some (s40.val) ∧
 Calls Tryz.prog fn_hollowaybook_SameInts #[s39.val, s40.val] w37 fun e41 w42 => ∃ b43 : Bool, e41 = .returned (.bool b43) ∧
 brB b43
 (∃ t44 : ByteArray, w42.cell? ⟨b21, 5, none⟩ = some (.string t44) ∧
 ∃ t45 : ByteArray, w42.cell? ⟨b23, 5, none⟩ = some (.string t45) ∧
 brB (t44.toList == t45.toList)
 (∃ t46 : ByteArray, w42.cell? ⟨b21, 6, none⟩ = some (.string t46) ∧
 ∃ t47 : ByteArray, w42.cell? ⟨b23, 6, none⟩ = some (.string t47) ∧
 brB (t46.toList == t47.toList)
 (∃ n48 : Int, w42.cell? ⟨b21, 7, none⟩ = some (.int .i64 n48) ∧
 ∃ n49 : Int, w42.cell? ⟨b23, 7, none⟩ = some (.int .i64 n49) ∧
 brB (n48 == n49)
 (∃ n50 : Int, w42.cell? ⟨b21, 8, none⟩ = some (.int .i64 n50) ∧
 ∃ n51 : Int, w42.cell? ⟨b23, 8, none⟩ = some (.int .i64 n51) ∧
 brB (n50 == n51)
 (∃ n52 : Int, w42.cell? ⟨b21, 9, none⟩ = some (.int .i64 n52) ∧
 ∃ n53 : Int, w42.cell? ⟨b23, 9, none⟩ = some (.int .i64 n53) ∧
 K (.bool (n52 == n53)) w42)
 (K (.bool false) w42))
 (K (.bool false) w42))
 (K (.bool false) w42))
 (K (.bool false) w42))
 (K (.bool false) w42))
 (K (.bool false) w37))
 (K (.bool false) w32))
 (K (.bool false) w24))
 (K (.bool false) w24)
def hollowaybook_SameState_an : An := ⟨[], [], []⟩
theorem hollowaybook_SameState_lift {a1 : Int} {a2 : Int} {a3 : Sl} {a4 : Sl} {a5 : Sl} {a6 : ByteArray} {a7 : ByteArray} {a8 : Int} {a9 : Int} {a10 : Int} {b11 : Int} {b12 : Int} {b13 : Sl} {b14 : Sl} {b15 : Sl} {b16 : ByteArray} {b17 : ByteArray} {b18 : Int} {b19 : Int} {b20 : Int} {w : World} {K : Value → World → Prop} (h : hollowaybook_SameState_sh a1 a2 a3 a4 a5 a6 a7 a8 a9 a10 b11 b12 b13 b14 b15 b16 b17 b18 b19 b20 w K) : Calls Tryz.prog fn_hollowaybook_SameState #[.agg #[.int .i64 a1, .int .i64 a2, a3.val, a4.val, a5.val, .string a6, .string a7, .int .i64 a8, .int .i64 a9, .int .i64 a10], .agg #[.int .i64 b11, .int .i64 b12, b13.val, b14.val, b15.val, .string b16, .string b17, .int .i64 b18, .int .i64 b19, .int .i64 b20]] w fun e w' => ∃ v, e = .returned v ∧ K v w' :=
   lift_calls (A := hollowaybook_SameState_an) (c := bodyOf Tryz.f11) (args := [.agg #[.int .i64 a1, .int .i64 a2, a3.val, a4.val, a5.val, .string a6, .string a7, .int .i64 a8, .int .i64 a9, .int .i64 a10], .agg #[.int .i64 b11, .int .i64 b12, b13.val, b14.val, b15.val, .string b16, .string b17, .int .i64 b18, .int .i64 b19, .int .i64 b20]]) orc orc_wide Tryz.func11 (by kernel_rfl) (by kernel_rfl) (Eq.mp (by kernel_rfl : hollowaybook_SameState_sh a1 a2 a3 a4 a5 a6 a7 a8 a9 a10 b11 b12 b13 b14 b15 b16 b17 b18 b19 b20 w K = wpc orc Tryz.f11.ntmps hollowaybook_SameState_an (bodyOf Tryz.f11) (argl 0 [.agg #[.int .i64 a1, .int .i64 a2, a3.val, a4.val, a5.val, .string a6, .string a7, .int .i64 a8, .int .i64 a9, .int .i64 a10], .agg #[.int .i64 b11, .int .i64 b12, b13.val, b14.val, b15.val, .string b16, .string b17, .int .i64 b18, .int .i64 b19, .int .i64 b20]]) w (retQ orc Tryz.f11.results.toList K)) h)

def hollowaybook_LentState_sh (s1 : Int) (s2 : Int) (s3 : Sl) (s4 : Sl) (s5 : Sl) (s6 : ByteArray) (s7 : ByteArray) (s8 : Int) (s9 : Int) (s10 : Int) (w : World) (K : Value → World → Prop) : Prop :=
 ∀ (b11 : Nat) (w12 : World), b11 = w.heap.size → w12 = World.alloc w (.cells #[.int .i64 s1, .int .i64 s2, s3.val, s4.val, s5.val, .string s6, .string s7, .int .i64 s8, .int .i64 s9, .int .i64 s10] T_api_State) →
 ∀ (b13 : Nat) (w14 : World), b13 = w12.heap.size → w14 = World.alloc w12 (.cells #[.int .i64 (0 : Int), .int .i64 (0 : Int), .slice none 0 0, .slice none 0 0, .slice none 0 0, .string (bs []), .string (bs []), .int .i64 (0 : Int), .int .i64 (0 : Int), .int .i64 (0 : Int)] T_api_State) →
 ∀ w15 : World, w15 = World.drew w14 →
 ∃ S16 : World → Prop, S16 w15 ∧
 ∃ s17 : Sl, held S16 ⟨b11, 2, none⟩ (s17.val) ∧
 ∃ s18 : Sl, held S16 ⟨b11, 3, none⟩ (s18.val) ∧
 ∃ s19 : Sl, held S16 ⟨b11, 4, none⟩ (s19.val) ∧
 Calls Tryz.prog fn_hollowaybook_LentInts #[s17.val] w15 fun e20 w21 => ∃ s22 : Sl, e20 = .returned (s22.val) ∧
 S16 w21 ∧
 Calls Tryz.prog fn_hollowaybook_LentInts #[s18.val] w21 fun e23 w24 => ∃ s25 : Sl, e23 = .returned (s25.val) ∧
 S16 w24 ∧
 Calls Tryz.prog fn_hollowaybook_LentInts #[s19.val] w24 fun e26 w27 => ∃ s28 : Sl, e26 = .returned (s28.val) ∧
 S16 w27 ∧
 wrOk w27 ⟨b11, 2, none⟩ 1 ∧ ∀ w29 : World, w29 = stW w27 ⟨b11, 2, none⟩ 0 [s22.val] →
 wrOk w29 ⟨b11, 3, none⟩ 1 ∧ ∀ w30 : World, w30 = stW w29 ⟨b11, 3, none⟩ 0 [s25.val] →
 wrOk w30 ⟨b11, 4, none⟩ 1 ∧ ∀ w31 : World, w31 = stW w30 ⟨b11, 4, none⟩ 0 [s28.val] →
 ∃ n32 n33 : Int, ∃ s34 s35 s36 : Sl, ∃ t37 t38 : ByteArray, ∃ n39 n40 n41 : Int, w31.cell? ⟨b11, 0, none⟩ = some (.int .i64 n32) ∧ w31.cell? ⟨b11, 1, none⟩ = some (.int .i64 n33) ∧ w31.cell? ⟨b11, 2, none⟩ = some (s34.val) ∧ w31.cell? ⟨b11, 3, none⟩ = some (s35.val) ∧ w31.cell? ⟨b11, 4, none⟩ = some (s36.val) ∧ w31.cell? ⟨b11, 5, none⟩ = some (.string t37) ∧ w31.cell? ⟨b11, 6, none⟩ = some (.string t38) ∧ w31.cell? ⟨b11, 7, none⟩ = some (.int .i64 n39) ∧ w31.cell? ⟨b11, 8, none⟩ = some (.int .i64 n40) ∧ w31.cell? ⟨b11, 9, none⟩ = some (.int .i64 n41) ∧
 wrOk w31 ⟨b13, 0, none⟩ 10 ∧ ∀ w42 : World, w42 = stW w31 ⟨b13, 0, none⟩ 0 [.int .i64 n32, .int .i64 n33, s34.val, s35.val, s36.val, .string t37, .string t38, .int .i64 n39, .int .i64 n40, .int .i64 n41] →
 ∃ r43 r44 : Int, ∃ r45 r46 r47 : Sl, ∃ r48 r49 : ByteArray, ∃ r50 r51 r52 : Int, w42.cell? ⟨b13, 0, none⟩ = some (.int .i64 r43) ∧ w42.cell? ⟨b13, 1, none⟩ = some (.int .i64 r44) ∧ w42.cell? ⟨b13, 2, none⟩ = some (r45.val) ∧ w42.cell? ⟨b13, 3, none⟩ = some (r46.val) ∧ w42.cell? ⟨b13, 4, none⟩ = some (r47.val) ∧ w42.cell? ⟨b13, 5, none⟩ = some (.string r48) ∧ w42.cell? ⟨b13, 6, none⟩ = some (.string r49) ∧ w42.cell? ⟨b13, 7, none⟩ = some (.int .i64 r50) ∧ w42.cell? ⟨b13, 8, none⟩ = some (.int .i64 r51) ∧ w42.cell? ⟨b13, 9, none⟩ = some (.int .i64 r52) ∧
 K (.agg #[.int .i64 r43, .int .i64 r44, r45.val, r46.val, r47.val, .string r48, .string r49, .int .i64 r50, .int .i64 r51, .int .i64 r52]) w42
def hollowaybook_LentState_an : An := ⟨[], [(1, (10, .st 0 (.st 1 (.st 3 (.st 4 (.st 6 (.st 7 (.ef 2 (.st 9 (.ef 5 (.ef 8 .done))))))))), 1))], []⟩
theorem hollowaybook_LentState_lift {s1 : Int} {s2 : Int} {s3 : Sl} {s4 : Sl} {s5 : Sl} {s6 : ByteArray} {s7 : ByteArray} {s8 : Int} {s9 : Int} {s10 : Int} {w : World} {K : Value → World → Prop} (h : hollowaybook_LentState_sh s1 s2 s3 s4 s5 s6 s7 s8 s9 s10 w K) : Calls Tryz.prog fn_hollowaybook_LentState #[.agg #[.int .i64 s1, .int .i64 s2, s3.val, s4.val, s5.val, .string s6, .string s7, .int .i64 s8, .int .i64 s9, .int .i64 s10]] w fun e w' => ∃ v, e = .returned v ∧ K v w' :=
   lift_calls (A := hollowaybook_LentState_an) (c := bodyOf Tryz.f16) (args := [.agg #[.int .i64 s1, .int .i64 s2, s3.val, s4.val, s5.val, .string s6, .string s7, .int .i64 s8, .int .i64 s9, .int .i64 s10]]) orc orc_wide Tryz.func16 (by kernel_rfl) (by kernel_rfl) (Eq.mp (by kernel_rfl : hollowaybook_LentState_sh s1 s2 s3 s4 s5 s6 s7 s8 s9 s10 w K = wpc orc Tryz.f16.ntmps hollowaybook_LentState_an (bodyOf Tryz.f16) (argl 0 [.agg #[.int .i64 s1, .int .i64 s2, s3.val, s4.val, s5.val, .string s6, .string s7, .int .i64 s8, .int .i64 s9, .int .i64 s10]]) w (retQ orc Tryz.f16.results.toList K)) h)

def hollowaybook_StaysState_sh (m1 : Int) (m2 : Int) (m3 : Sl) (m4 : Sl) (m5 : Sl) (m6 : ByteArray) (m7 : ByteArray) (m8 : Int) (m9 : Int) (m10 : Int) (was_Ip11 : Int) (was_Handler12 : Int) (was_Stack13 : Sl) (was_Back14 : Sl) (was_Mem15 : Sl) (was_Out16 : ByteArray) (was_In17 : ByteArray) (was_Read18 : Int) (was_Status19 : Int) (was_Code20 : Int) (w : World) (K : Value → World → Prop) : Prop :=
 ∀ (b21 : Nat) (w22 : World), b21 = w.heap.size → w22 = World.alloc w (.cells #[.int .i64 m1, .int .i64 m2, m3.val, m4.val, m5.val, .string m6, .string m7, .int .i64 m8, .int .i64 m9, .int .i64 m10] T_api_State) →
 ∀ (b23 : Nat) (w24 : World), b23 = w22.heap.size → w24 = World.alloc w22 (.cells #[.int .i64 was_Ip11, .int .i64 was_Handler12, was_Stack13.val, was_Back14.val, was_Mem15.val, .string was_Out16, .string was_In17, .int .i64 was_Read18, .int .i64 was_Status19, .int .i64 was_Code20] T_api_State) →
 ∃ n25 n26 : Int, ∃ s27 s28 s29 : Sl, ∃ t30 t31 : ByteArray, ∃ n32 n33 n34 : Int, w24.cell? ⟨b21, 0, none⟩ = some (.int .i64 n25) ∧ w24.cell? ⟨b21, 1, none⟩ = some (.int .i64 n26) ∧ w24.cell? ⟨b21, 2, none⟩ = some (s27.val) ∧ w24.cell? ⟨b21, 3, none⟩ = some (s28.val) ∧ w24.cell? ⟨b21, 4, none⟩ = some (s29.val) ∧ w24.cell? ⟨b21, 5, none⟩ = some (.string t30) ∧ w24.cell? ⟨b21, 6, none⟩ = some (.string t31) ∧ w24.cell? ⟨b21, 7, none⟩ = some (.int .i64 n32) ∧ w24.cell? ⟨b21, 8, none⟩ = some (.int .i64 n33) ∧ w24.cell? ⟨b21, 9, none⟩ = some (.int .i64 n34) ∧
 ∃ n35 n36 : Int, ∃ s37 s38 s39 : Sl, ∃ t40 t41 : ByteArray, ∃ n42 n43 n44 : Int, w24.cell? ⟨b23, 0, none⟩ = some (.int .i64 n35) ∧ w24.cell? ⟨b23, 1, none⟩ = some (.int .i64 n36) ∧ w24.cell? ⟨b23, 2, none⟩ = some (s37.val) ∧ w24.cell? ⟨b23, 3, none⟩ = some (s38.val) ∧ w24.cell? ⟨b23, 4, none⟩ = some (s39.val) ∧ w24.cell? ⟨b23, 5, none⟩ = some (.string t40) ∧ w24.cell? ⟨b23, 6, none⟩ = some (.string t41) ∧ w24.cell? ⟨b23, 7, none⟩ = some (.int .i64 n42) ∧ w24.cell? ⟨b23, 8, none⟩ = some (.int .i64 n43) ∧ w24.cell? ⟨b23, 9, none⟩ = some (.int .i64 n44) ∧
 Calls Tryz.prog fn_hollowaybook_SameState #[.agg #[.int .i64 n25, .int .i64 n26, s27.val, s28.val, s29.val, .string t30, .string t31, .int .i64 n32, .int .i64 n33, .int .i64 n34], .agg #[.int .i64 n35, .int .i64 n36, s37.val, s38.val, s39.val, .string t40, .string t41, .int .i64 n42, .int .i64 n43, .int .i64 n44]] w24 fun e45 w46 => ∃ b47 : Bool, e45 = .returned (.bool b47) ∧
 brB b47
 (∃ s48 : Sl, w46.cell? ⟨b21, 2, none⟩ = some (s48.val) ∧
 ∃ s49 : Sl, w46.cell? ⟨b23, 2, none⟩ = some (s49.val) ∧
 Calls Tryz.prog fn_hollowaybook_StaysInts #[s48.val, s49.val] w46 fun e50 w51 => ∃ b52 : Bool, e50 = .returned (.bool b52) ∧
 brB b52
 (∃ s53 : Sl, w51.cell? ⟨b21, 3, none⟩ = some (s53.val) ∧
 ∃ s54 : Sl, w51.cell? ⟨b23, 3, none⟩ = some (s54.val) ∧
 Calls Tryz.prog fn_hollowaybook_StaysInts #[s53.val, s54.val] w51 fun e55 w56 => ∃ b57 : Bool, e55 = .returned (.bool b57) ∧
 brB b57
 (∃ s58 : Sl, w56.cell? ⟨b21, 4, none⟩ = some (s58.val) ∧
 ∃ s59 : Sl, w56.cell? ⟨b23, 4, none⟩ = some (s59.val) ∧
 Calls Tryz.prog fn_hollowaybook_StaysInts #[s58.val, s59.val] w56 fun e60 w61 => ∃ b62 : Bool, e60 = .returned (.bool b62) ∧
 K (.bool b62) w61)
 (K (.bool false) w56))
 (K (.bool false) w51))
 (K (.bool false) w46)
def hollowaybook_StaysState_an : An := ⟨[], [], []⟩
theorem hollowaybook_StaysState_lift {m1 : Int} {m2 : Int} {m3 : Sl} {m4 : Sl} {m5 : Sl} {m6 : ByteArray} {m7 : ByteArray} {m8 : Int} {m9 : Int} {m10 : Int} {was_Ip11 : Int} {was_Handler12 : Int} {was_Stack13 : Sl} {was_Back14 : Sl} {was_Mem15 : Sl} {was_Out16 : ByteArray} {was_In17 : ByteArray} {was_Read18 : Int} {was_Status19 : Int} {was_Code20 : Int} {w : World} {K : Value → World → Prop} (h : hollowaybook_StaysState_sh m1 m2 m3 m4 m5 m6 m7 m8 m9 m10 was_Ip11 was_Handler12 was_Stack13 was_Back14 was_Mem15 was_Out16 was_In17 was_Read18 was_Status19 was_Code20 w K) : Calls Tryz.prog fn_hollowaybook_StaysState #[.agg #[.int .i64 m1, .int .i64 m2, m3.val, m4.val, m5.val, .string m6, .string m7, .int .i64 m8, .int .i64 m9, .int .i64 m10], .agg #[.int .i64 was_Ip11, .int .i64 was_Handler12, was_Stack13.val, was_Back14.val, was_Mem15.val, .string was_Out16, .string was_In17, .int .i64 was_Read18, .int .i64 was_Status19, .int .i64 was_Code20]] w fun e w' => ∃ v, e = .returned v ∧ K v w' :=
   lift_calls (A := hollowaybook_StaysState_an) (c := bodyOf Tryz.f21) (args := [.agg #[.int .i64 m1, .int .i64 m2, m3.val, m4.val, m5.val, .string m6, .string m7, .int .i64 m8, .int .i64 m9, .int .i64 m10], .agg #[.int .i64 was_Ip11, .int .i64 was_Handler12, was_Stack13.val, was_Back14.val, was_Mem15.val, .string was_Out16, .string was_In17, .int .i64 was_Read18, .int .i64 was_Status19, .int .i64 was_Code20]]) orc orc_wide Tryz.func21 (by kernel_rfl) (by kernel_rfl) (Eq.mp (by kernel_rfl : hollowaybook_StaysState_sh m1 m2 m3 m4 m5 m6 m7 m8 m9 m10 was_Ip11 was_Handler12 was_Stack13 was_Back14 was_Mem15 was_Out16 was_In17 was_Read18 was_Status19 was_Code20 w K = wpc orc Tryz.f21.ntmps hollowaybook_StaysState_an (bodyOf Tryz.f21) (argl 0 [.agg #[.int .i64 m1, .int .i64 m2, m3.val, m4.val, m5.val, .string m6, .string m7, .int .i64 m8, .int .i64 m9, .int .i64 m10], .agg #[.int .i64 was_Ip11, .int .i64 was_Handler12, was_Stack13.val, was_Back14.val, was_Mem15.val, .string was_Out16, .string was_In17, .int .i64 was_Read18, .int .i64 was_Status19, .int .i64 was_Code20]]) w (retQ orc Tryz.f21.results.toList K)) h)

def hollowaybook_Book_Apart_sh (b_1 : Nat) (w : World) (K : Value → World → Prop) : Prop :=
 Calls Tryz.prog fn_hollowaybook_Book_stillTexts #[.pointer (some ⟨b_1, 0, none⟩)] w fun e2 w3 => ∃ b4 : Bool, e2 = .returned (.bool b4) ∧
 brB (!b4)
 (K (.bool false) w3)
 (Calls Tryz.prog fn_hollowaybook_Book_stillInts #[.pointer (some ⟨b_1, 0, none⟩)] w3 fun e5 w6 => ∃ b7 : Bool, e5 = .returned (.bool b7) ∧
 brB (!b7)
 (K (.bool false) w6)
 (Calls Tryz.prog fn_hollowaybook_Book_stillWords #[.pointer (some ⟨b_1, 0, none⟩)] w6 fun e8 w9 => ∃ b10 : Bool, e8 = .returned (.bool b10) ∧
 brB (!b10)
 (K (.bool false) w9)
 (Calls Tryz.prog fn_hollowaybook_Book_stillSeens #[.pointer (some ⟨b_1, 0, none⟩)] w9 fun e11 w12 => ∃ b13 : Bool, e11 = .returned (.bool b13) ∧
 brB (!b13)
 (K (.bool false) w12)
 (Calls Tryz.prog fn_hollowaybook_Book_stillCodes #[.pointer (some ⟨b_1, 0, none⟩)] w12 fun e14 w15 => ∃ b16 : Bool, e14 = .returned (.bool b16) ∧
 brB (!b16)
 (K (.bool false) w15)
 (Calls Tryz.prog fn_hollowaybook_Book_stillExits #[.pointer (some ⟨b_1, 0, none⟩)] w15 fun e17 w18 => ∃ b19 : Bool, e17 = .returned (.bool b19) ∧
 brB (!b19)
 (K (.bool false) w18)
 (Calls Tryz.prog fn_hollowaybook_Book_putExits #[.pointer (some ⟨b_1, 0, none⟩)] w18 fun e20 w21 => e20 = .returned (.tuple #[]) ∧
 Calls Tryz.prog fn_hollowaybook_Book_putTexts #[.pointer (some ⟨b_1, 0, none⟩)] w21 fun e22 w23 => e22 = .returned (.tuple #[]) ∧
 Calls Tryz.prog fn_hollowaybook_Book_putInts #[.pointer (some ⟨b_1, 0, none⟩)] w23 fun e24 w25 => e24 = .returned (.tuple #[]) ∧
 Calls Tryz.prog fn_hollowaybook_Book_putWords #[.pointer (some ⟨b_1, 0, none⟩)] w25 fun e26 w27 => e26 = .returned (.tuple #[]) ∧
 Calls Tryz.prog fn_hollowaybook_Book_putSeens #[.pointer (some ⟨b_1, 0, none⟩)] w27 fun e28 w29 => e28 = .returned (.tuple #[]) ∧
 Calls Tryz.prog fn_hollowaybook_Book_putCodes #[.pointer (some ⟨b_1, 0, none⟩)] w29 fun e30 w31 => e30 = .returned (.tuple #[]) ∧
 Calls Tryz.prog fn_hollowaybook_Book_growTexts #[.pointer (some ⟨b_1, 0, none⟩)] w31 fun e32 w33 => ∃ s34 : Sl, e32 = .returned (s34.val) ∧
 Calls Tryz.prog fn_hollowaybook_Book_growInts #[.pointer (some ⟨b_1, 0, none⟩)] w33 fun e35 w36 => ∃ s37 : Sl, e35 = .returned (s37.val) ∧
 Calls Tryz.prog fn_hollowaybook_Book_growWords #[.pointer (some ⟨b_1, 0, none⟩)] w36 fun e38 w39 => ∃ s40 : Sl, e38 = .returned (s40.val) ∧
 Calls Tryz.prog fn_hollowaybook_Book_growSeens #[.pointer (some ⟨b_1, 0, none⟩)] w39 fun e41 w42 => ∃ s43 : Sl, e41 = .returned (s43.val) ∧
 Calls Tryz.prog fn_hollowaybook_Book_growCodes #[.pointer (some ⟨b_1, 0, none⟩)] w42 fun e44 w45 => ∃ s46 : Sl, e44 = .returned (s46.val) ∧
 Calls Tryz.prog fn_hollowaybook_Book_growExits #[.pointer (some ⟨b_1, 0, none⟩)] w45 fun e47 w48 => ∃ s49 : Sl, e47 = .returned (s49.val) ∧
 Calls Tryz.prog fn_hollowaybook_markedTexts #[s34.val] w48 fun e50 w51 => ∃ b52 : Bool, e50 = .returned (.bool b52) ∧
 brB b52
 (∃ s53 : Sl, w51.cell? ⟨b_1, 0, none⟩ = some (s53.val) ∧
 Calls Tryz.prog fn_hollowaybook_markedTexts #[s53.val] w51 fun e54 w55 => ∃ b56 : Bool, e54 = .returned (.bool b56) ∧
 brB b56
 (Calls Tryz.prog fn_hollowaybook_markedInts #[s37.val] w55 fun e57 w58 => ∃ b59 : Bool, e57 = .returned (.bool b59) ∧
 brB b59
 (∃ s60 : Sl, w58.cell? ⟨b_1, 2, none⟩ = some (s60.val) ∧
 Calls Tryz.prog fn_hollowaybook_markedInts #[s60.val] w58 fun e61 w62 => ∃ b63 : Bool, e61 = .returned (.bool b63) ∧
 brB b63
 (Calls Tryz.prog fn_hollowaybook_markedWords #[s40.val] w62 fun e64 w65 => ∃ b66 : Bool, e64 = .returned (.bool b66) ∧
 brB b66
 (∃ s67 : Sl, w65.cell? ⟨b_1, 4, none⟩ = some (s67.val) ∧
 Calls Tryz.prog fn_hollowaybook_markedWords #[s67.val] w65 fun e68 w69 => ∃ b70 : Bool, e68 = .returned (.bool b70) ∧
 brB b70
 (Calls Tryz.prog fn_hollowaybook_markedSeens #[s43.val] w69 fun e71 w72 => ∃ b73 : Bool, e71 = .returned (.bool b73) ∧
 brB b73
 (∃ s74 : Sl, w72.cell? ⟨b_1, 6, none⟩ = some (s74.val) ∧
 Calls Tryz.prog fn_hollowaybook_markedSeens #[s74.val] w72 fun e75 w76 => ∃ b77 : Bool, e75 = .returned (.bool b77) ∧
 brB b77
 (Calls Tryz.prog fn_hollowaybook_markedCodes #[s46.val] w76 fun e78 w79 => ∃ b80 : Bool, e78 = .returned (.bool b80) ∧
 brB b80
 (∃ s81 : Sl, w79.cell? ⟨b_1, 8, none⟩ = some (s81.val) ∧
 Calls Tryz.prog fn_hollowaybook_markedCodes #[s81.val] w79 fun e82 w83 => ∃ b84 : Bool, e82 = .returned (.bool b84) ∧
 brB b84
 (Calls Tryz.prog fn_hollowaybook_markedExits #[s49.val] w83 fun e85 w86 => ∃ b87 : Bool, e85 = .returned (.bool b87) ∧
 brB b87
 (∃ s88 : Sl, w86.cell? ⟨b_1, 10, none⟩ = some (s88.val) ∧
 Calls Tryz.prog fn_hollowaybook_markedExits #[s88.val] w86 fun e89 w90 => ∃ b91 : Bool, e89 = .returned (.bool b91) ∧
 K (.bool b91) w90)
 (K (.bool false) w86))
 (K (.bool false) w83))
 (K (.bool false) w79))
 (K (.bool false) w76))
 (K (.bool false) w72))
 (K (.bool false) w69))
 (K (.bool false) w65))
 (K (.bool false) w62))
 (K (.bool false) w58))
 (K (.bool false) w55))
 (K (.bool false) w51)))))))
def hollowaybook_Book_Apart_an : An := ⟨[], [], []⟩
theorem hollowaybook_Book_Apart_lift {b_1 : Nat} {w : World} {K : Value → World → Prop} (h : hollowaybook_Book_Apart_sh b_1 w K) : Calls Tryz.prog fn_hollowaybook_Book_Apart #[.pointer (some ⟨b_1, 0, none⟩)] w fun e w' => ∃ v, e = .returned v ∧ K v w' :=
   lift_calls (A := hollowaybook_Book_Apart_an) (c := bodyOf Tryz.f22) (args := [.pointer (some ⟨b_1, 0, none⟩)]) orc orc_wide Tryz.func22 (by kernel_rfl) (by kernel_rfl) (Eq.mp (by kernel_rfl : hollowaybook_Book_Apart_sh b_1 w K = wpc orc Tryz.f22.ntmps hollowaybook_Book_Apart_an (bodyOf Tryz.f22) (argl 0 [.pointer (some ⟨b_1, 0, none⟩)]) w (retQ orc Tryz.f22.results.toList K)) h)

def hollowaybook_SameSeens_sh (a_1 : Sl) (b_2 : Sl) (w : World) (K : Value → World → Prop) : Prop :=
 brB ((a_1.len : Int) != (b_2.len : Int))
 (K (.bool false) w)
 (∃ (I1 : Int → World → Prop) (μ1 : Int → World → Nat), I1 (0 : Int) w ∧ ∀ (i4 : Int) (w3 : World), I1 i4 w3 →
 brB (decide (i4 < (a_1.len : Int)))
 (∀ w5 : World, w5 = World.drew w3 →
 ∃ a6 : Addr, a_1.ptr = some a6 ∧ 0 ≤ i4 ∧ i4 < (a_1.len : Int) ∧
 ∃ n7 n8 : Int, ∃ n9 n10 : Int, held (Lw w5) (Addr.add a6 (Int.toNat i4 * 4)) (.int .i64 n7) ∧ held (Lw w5) (Addr.add (Addr.add a6 (Int.toNat i4 * 4)) 1) (.int .i64 n8) ∧ held (Lw w5) (Addr.add (Addr.add a6 (Int.toNat i4 * 4)) 2) (.int .i64 n9) ∧ held (Lw w5) (Addr.add (Addr.add a6 (Int.toNat i4 * 4)) 3) (.int .i64 n10) ∧
 ∃ a11 : Addr, b_2.ptr = some a11 ∧ 0 ≤ i4 ∧ i4 < (b_2.len : Int) ∧
 ∃ n12 n13 : Int, ∃ n14 n15 : Int, held (Lw w5) (Addr.add a11 (Int.toNat i4 * 4)) (.int .i64 n12) ∧ held (Lw w5) (Addr.add (Addr.add a11 (Int.toNat i4 * 4)) 1) (.int .i64 n13) ∧ held (Lw w5) (Addr.add (Addr.add a11 (Int.toNat i4 * 4)) 2) (.int .i64 n14) ∧ held (Lw w5) (Addr.add (Addr.add a11 (Int.toNat i4 * 4)) 3) (.int .i64 n15) ∧
 ∃ b16 : Bool, ∃ w17 : World, ((do eqGuard .eql T_api_Seen (.tmp 20) (.tmp 24) (.agg #[.int .i64 n7, .int .i64 n8, .int .i64 n9, .int .i64 n10]) (.agg #[.int .i64 n12, .int .i64 n13, .int .i64 n14, .int .i64 n15]); binOp .eql T_api_Seen (.agg #[.int .i64 n7, .int .i64 n8, .int .i64 n9, .int .i64 n10]) (.agg #[.int .i64 n12, .int .i64 n13, .int .i64 n14, .int .i64 n15]) : Sem Value)).run Tryz.prog w5 = .ok (.bool b16) w17 ∧
 brB (!b16)
 (K (.bool false) w17)
 (I1 (wr (i4 + (1 : Int))) w17 ∧ μ1 (wr (i4 + (1 : Int))) w17 < μ1 i4 w3))
 (K (.bool true) w3))
def hollowaybook_SameSeens_an : An := ⟨[(4, [(5, .int .i64)])], [(6, (8, .st 0 (.st 1 (.st 2 (.st 3 (.st 4 (.st 5 (.st 6 (.st 7 .done))))))), 0))], []⟩
theorem hollowaybook_SameSeens_lift {a_1 : Sl} {b_2 : Sl} {w : World} {K : Value → World → Prop} (h : hollowaybook_SameSeens_sh a_1 b_2 w K) : Calls Tryz.prog fn_hollowaybook_SameSeens #[a_1.val, b_2.val] w fun e w' => ∃ v, e = .returned v ∧ K v w' :=
   lift_calls (A := hollowaybook_SameSeens_an) (c := bodyOf Tryz.f32) (args := [a_1.val, b_2.val]) orc orc_wide Tryz.func32 (by kernel_rfl) (by kernel_rfl) (Eq.mp (by kernel_rfl : hollowaybook_SameSeens_sh a_1 b_2 w K = wpc orc Tryz.f32.ntmps hollowaybook_SameSeens_an (bodyOf Tryz.f32) (argl 0 [a_1.val, b_2.val]) w (retQ orc Tryz.f32.results.toList K)) h)

def hollowaybook_Book_Seens_sh (b_1 : Nat) (l_2 : Sl) (w : World) (K : Value → World → Prop) : Prop :=
 ∃ s3 : Sl, w.cell? ⟨b_1, 6, none⟩ = some (s3.val) ∧
 brB (decide ((s3.len : Int) < (250 : Int)))
 (∃ s4 : Sl, w.cell? ⟨b_1, 6, none⟩ = some (s4.val) ∧
 ∀ (b5 : Nat) (w6 : World), b5 = w.heap.size → w6 = World.alloc w (.cells #[l_2.val] T_sl_api_Seen) →
 ∃ s7 : Sl, ∃ w8 : World, (Builtin.append_ #[T_sl_sl_api_Seen, T_sl_sl_api_Seen] T_sl_sl_api_Seen #[s4.val, .slice (some ⟨b5, 0, none⟩) 1 1]).run Tryz.prog w6 = .ok (s7.val) w8 ∧
 wrOk w8 ⟨b_1, 6, none⟩ 1 ∧ ∀ w9 : World, w9 = stW w8 ⟨b_1, 6, none⟩ 0 [s7.val] →
 ∀ w10 : World, w10 = World.drew w9 →
 ∃ S11 : World → Prop, S11 w10 ∧
 ∃ s12 : Sl, held S11 ⟨b_1, 7, none⟩ (s12.val) ∧
 Calls Tryz.prog fn_hollowaybook_copySeens #[l_2.val] w10 fun e13 w14 => ∃ s15 : Sl, e13 = .returned (s15.val) ∧
 S11 w14 ∧
 ∀ (b16 : Nat) (w17 : World), b16 = w14.heap.size → w17 = World.alloc w14 (.cells #[s15.val] T_sl_api_Seen) →
 S11 w17 ∧
 ∃ s18 : Sl, ∃ w19 : World, (Builtin.append_ #[T_sl_sl_api_Seen, T_sl_sl_api_Seen] T_sl_sl_api_Seen #[s12.val, .slice (some ⟨b16, 0, none⟩) 1 1]).run Tryz.prog w17 = .ok (s18.val) w19 ∧
 S11 w19 ∧
 wrOk w19 ⟨b_1, 7, none⟩ 1 ∧ ∀ w20 : World, w20 = stW w19 ⟨b_1, 7, none⟩ 0 [s18.val] →
 K (.tuple #[]) w20)
 (K (.tuple #[]) w)
def hollowaybook_Book_Seens_an : An := ⟨[], [(2, (9, .st 0 (.st 1 (.st 2 (.st 3 (.st 4 (.st 5 (.ef 6 (.ef 7 (.ef 8 .done)))))))), 1))], []⟩
theorem hollowaybook_Book_Seens_lift {b_1 : Nat} {l_2 : Sl} {w : World} {K : Value → World → Prop} (h : hollowaybook_Book_Seens_sh b_1 l_2 w K) : Calls Tryz.prog fn_hollowaybook_Book_Seens #[.pointer (some ⟨b_1, 0, none⟩), l_2.val] w fun e w' => ∃ v, e = .returned v ∧ K v w' :=
   lift_calls (A := hollowaybook_Book_Seens_an) (c := bodyOf Tryz.f33) (args := [.pointer (some ⟨b_1, 0, none⟩), l_2.val]) orc orc_wide Tryz.func33 (by kernel_rfl) (by kernel_rfl) (Eq.mp (by kernel_rfl : hollowaybook_Book_Seens_sh b_1 l_2 w K = wpc orc Tryz.f33.ntmps hollowaybook_Book_Seens_an (bodyOf Tryz.f33) (argl 0 [.pointer (some ⟨b_1, 0, none⟩), l_2.val]) w (retQ orc Tryz.f33.results.toList K)) h)

def hollowaybook_Book_Ints_sh (b_1 : Nat) (l_2 : Sl) (w : World) (K : Value → World → Prop) : Prop :=
 ∃ s3 : Sl, w.cell? ⟨b_1, 2, none⟩ = some (s3.val) ∧
 brB (decide ((s3.len : Int) < (250 : Int)))
 (∃ s4 : Sl, w.cell? ⟨b_1, 2, none⟩ = some (s4.val) ∧
 ∀ (b5 : Nat) (w6 : World), b5 = w.heap.size → w6 = World.alloc w (.cells #[l_2.val] T_sl_int) →
 ∃ s7 : Sl, ∃ w8 : World, (Builtin.append_ #[T_sl_sl_int, T_sl_sl_int] T_sl_sl_int #[s4.val, .slice (some ⟨b5, 0, none⟩) 1 1]).run Tryz.prog w6 = .ok (s7.val) w8 ∧
 wrOk w8 ⟨b_1, 2, none⟩ 1 ∧ ∀ w9 : World, w9 = stW w8 ⟨b_1, 2, none⟩ 0 [s7.val] →
 ∀ w10 : World, w10 = World.drew w9 →
 ∃ S11 : World → Prop, S11 w10 ∧
 ∃ s12 : Sl, held S11 ⟨b_1, 3, none⟩ (s12.val) ∧
 Calls Tryz.prog fn_hollowaybook_copyInts #[l_2.val] w10 fun e13 w14 => ∃ s15 : Sl, e13 = .returned (s15.val) ∧
 S11 w14 ∧
 ∀ (b16 : Nat) (w17 : World), b16 = w14.heap.size → w17 = World.alloc w14 (.cells #[s15.val] T_sl_int) →
 S11 w17 ∧
 ∃ s18 : Sl, ∃ w19 : World, (Builtin.append_ #[T_sl_sl_int, T_sl_sl_int] T_sl_sl_int #[s12.val, .slice (some ⟨b16, 0, none⟩) 1 1]).run Tryz.prog w17 = .ok (s18.val) w19 ∧
 S11 w19 ∧
 wrOk w19 ⟨b_1, 3, none⟩ 1 ∧ ∀ w20 : World, w20 = stW w19 ⟨b_1, 3, none⟩ 0 [s18.val] →
 K (.tuple #[]) w20)
 (K (.tuple #[]) w)
def hollowaybook_Book_Ints_an : An := ⟨[], [(2, (9, .st 0 (.st 1 (.st 2 (.st 3 (.st 4 (.st 5 (.ef 6 (.ef 7 (.ef 8 .done)))))))), 1))], []⟩
theorem hollowaybook_Book_Ints_lift {b_1 : Nat} {l_2 : Sl} {w : World} {K : Value → World → Prop} (h : hollowaybook_Book_Ints_sh b_1 l_2 w K) : Calls Tryz.prog fn_hollowaybook_Book_Ints #[.pointer (some ⟨b_1, 0, none⟩), l_2.val] w fun e w' => ∃ v, e = .returned v ∧ K v w' :=
   lift_calls (A := hollowaybook_Book_Ints_an) (c := bodyOf Tryz.f37) (args := [.pointer (some ⟨b_1, 0, none⟩), l_2.val]) orc orc_wide Tryz.func37 (by kernel_rfl) (by kernel_rfl) (Eq.mp (by kernel_rfl : hollowaybook_Book_Ints_sh b_1 l_2 w K = wpc orc Tryz.f37.ntmps hollowaybook_Book_Ints_an (bodyOf Tryz.f37) (argl 0 [.pointer (some ⟨b_1, 0, none⟩), l_2.val]) w (retQ orc Tryz.f37.results.toList K)) h)

def hollowaybook_SameInts_sh (a_1 : Sl) (b_2 : Sl) (w : World) (K : Value → World → Prop) : Prop :=
 brB ((a_1.len : Int) != (b_2.len : Int))
 (K (.bool false) w)
 (∃ (I1 : Int → World → Prop) (μ1 : Int → World → Nat), I1 (0 : Int) w ∧ ∀ (i4 : Int) (w3 : World), I1 i4 w3 →
 brB (decide (i4 < (a_1.len : Int)))
 (∀ w5 : World, w5 = World.drew w3 →
 ∃ a6 : Addr, a_1.ptr = some a6 ∧ 0 ≤ i4 ∧ i4 < (a_1.len : Int) ∧
 ∃ n7 : Int, held (Lw w5) (Addr.add a6 (Int.toNat i4 * 1)) (.int .i64 n7) ∧
 ∃ a8 : Addr, b_2.ptr = some a8 ∧ 0 ≤ i4 ∧ i4 < (b_2.len : Int) ∧
 ∃ n9 : Int, held (Lw w5) (Addr.add a8 (Int.toNat i4 * 1)) (.int .i64 n9) ∧
 brB (!(n7 == n9))
 (K (.bool false) w5)
 (I1 (wr (i4 + (1 : Int))) w5 ∧ μ1 (wr (i4 + (1 : Int))) w5 < μ1 i4 w3))
 (K (.bool true) w3))
def hollowaybook_SameInts_an : An := ⟨[(4, [(5, .int .i64)])], [(6, (10, .st 0 (.st 1 (.st 2 (.st 3 (.st 4 (.st 5 (.st 6 (.st 7 (.st 8 (.st 9 .done))))))))), 0))], []⟩
theorem hollowaybook_SameInts_lift {a_1 : Sl} {b_2 : Sl} {w : World} {K : Value → World → Prop} (h : hollowaybook_SameInts_sh a_1 b_2 w K) : Calls Tryz.prog fn_hollowaybook_SameInts #[a_1.val, b_2.val] w fun e w' => ∃ v, e = .returned v ∧ K v w' :=
   lift_calls (A := hollowaybook_SameInts_an) (c := bodyOf Tryz.f39) (args := [a_1.val, b_2.val]) orc orc_wide Tryz.func39 (by kernel_rfl) (by kernel_rfl) (Eq.mp (by kernel_rfl : hollowaybook_SameInts_sh a_1 b_2 w K = wpc orc Tryz.f39.ntmps hollowaybook_SameInts_an (bodyOf Tryz.f39) (argl 0 [a_1.val, b_2.val]) w (retQ orc Tryz.f39.results.toList K)) h)

def hollowaybook_LentInts_sh (l_1 : Sl) (w : World) (K : Value → World → Prop) : Prop :=
 Calls Tryz.prog fn_hollowaybook_copyInts #[l_1.val] w fun e2 w3 => ∃ s4 : Sl, e2 = .returned (s4.val) ∧
 ∀ (b5 : Nat) (w6 : World), b5 = w3.heap.size → w6 = World.alloc w3 (.cells #[.int .i64 (-77 : Int)] T_int) →
 ∃ s7 : Sl, ∃ w8 : World, (Builtin.append_ #[T_sl_int, T_sl_int] T_sl_int #[s4.val, .slice (some ⟨b5, 0, none⟩) 1 1]).run Tryz.prog w6 = .ok (s7.val) w8 ∧
 0 ≤ (l_1.len : Int) ∧ (l_1.len : Int) ≤ (s7.cap : Int) ∧ ∀ s9 : Sl, s9 = Sl.sub s7.ptr s7.cap 0 (Int.toNat (l_1.len : Int)) 1 →
 K (s9.val) w8
def hollowaybook_LentInts_an : An := ⟨[], [], []⟩
theorem hollowaybook_LentInts_lift {l_1 : Sl} {w : World} {K : Value → World → Prop} (h : hollowaybook_LentInts_sh l_1 w K) : Calls Tryz.prog fn_hollowaybook_LentInts #[l_1.val] w fun e w' => ∃ v, e = .returned v ∧ K v w' :=
   lift_calls (A := hollowaybook_LentInts_an) (c := bodyOf Tryz.f43) (args := [l_1.val]) orc orc_wide Tryz.func43 (by kernel_rfl) (by kernel_rfl) (Eq.mp (by kernel_rfl : hollowaybook_LentInts_sh l_1 w K = wpc orc Tryz.f43.ntmps hollowaybook_LentInts_an (bodyOf Tryz.f43) (argl 0 [l_1.val]) w (retQ orc Tryz.f43.results.toList K)) h)

def hollowaybook_StaysInts_sh (m_1 : Sl) (was2 : Sl) (w : World) (K : Value → World → Prop) : Prop :=
 Calls Tryz.prog fn_hollowaybook_SameInts #[m_1.val, was2.val] w fun e3 w4 => ∃ b5 : Bool, e3 = .returned (.bool b5) ∧
 brB b5
 (0 ≤ (wr ((m_1.len : Int) + (1 : Int))) ∧ (wr ((m_1.len : Int) + (1 : Int))) ≤ (m_1.cap : Int) ∧ ∀ s6 : Sl, s6 = Sl.sub m_1.ptr m_1.cap 0 (Int.toNat (wr ((m_1.len : Int) + (1 : Int)))) 1 →
 ∃ a7 : Addr, s6.ptr = some a7 ∧ 0 ≤ (m_1.len : Int) ∧ (m_1.len : Int) < (s6.len : Int) ∧
 ∃ n8 : Int, w4.cell? (Addr.add a7 (Int.toNat (m_1.len : Int) * 1)) = some (.int .i64 n8) ∧
 K (.bool (n8 == (-77 : Int))) w4)
 (K (.bool false) w4)
def hollowaybook_StaysInts_an : An := ⟨[], [], []⟩
theorem hollowaybook_StaysInts_lift {m_1 : Sl} {was2 : Sl} {w : World} {K : Value → World → Prop} (h : hollowaybook_StaysInts_sh m_1 was2 w K) : Calls Tryz.prog fn_hollowaybook_StaysInts #[m_1.val, was2.val] w fun e w' => ∃ v, e = .returned v ∧ K v w' :=
   lift_calls (A := hollowaybook_StaysInts_an) (c := bodyOf Tryz.f45) (args := [m_1.val, was2.val]) orc orc_wide Tryz.func45 (by kernel_rfl) (by kernel_rfl) (Eq.mp (by kernel_rfl : hollowaybook_StaysInts_sh m_1 was2 w K = wpc orc Tryz.f45.ntmps hollowaybook_StaysInts_an (bodyOf Tryz.f45) (argl 0 [m_1.val, was2.val]) w (retQ orc Tryz.f45.results.toList K)) h)

def hollowaybook_Book_stillTexts_sh (b_1 : Nat) (w : World) (K : Value → World → Prop) : Prop :=
 ∃ (I1 : Int → World → Prop) (μ1 : Int → World → Nat), I1 (0 : Int) w ∧ ∀ (i3 : Int) (w2 : World), I1 i3 w2 →
 ∃ s4 : Sl, w2.cell? ⟨b_1, 0, none⟩ = some (s4.val) ∧
 brB (decide (i3 < (s4.len : Int)))
 (∀ w5 : World, w5 = World.drew w2 →
 ∃ s6 : Sl, held (Lw w5) ⟨b_1, 0, none⟩ (s6.val) ∧
 ∃ a7 : Addr, s6.ptr = some a7 ∧ 0 ≤ i3 ∧ i3 < (s6.len : Int) ∧
 ∃ s8 : Sl, held (Lw w5) (Addr.add a7 (Int.toNat i3 * 1)) (s8.val) ∧
 ∃ s9 : Sl, held (Lw w5) ⟨b_1, 1, none⟩ (s9.val) ∧
 ∃ a10 : Addr, s9.ptr = some a10 ∧ 0 ≤ i3 ∧ i3 < (s9.len : Int) ∧
 ∃ s11 : Sl, held (Lw w5) (Addr.add a10 (Int.toNat i3 * 1)) (s11.val) ∧
 Calls Tryz.prog fn_hollowaybook_SameTexts #[s8.val, s11.val] w5 fun e12 w13 => ∃ b14 : Bool, e12 = .returned (.bool b14) ∧
 brB (!b14)
 (K (.bool false) w13)
 (I1 (wr (i3 + (1 : Int))) w13 ∧ μ1 (wr (i3 + (1 : Int))) w13 < μ1 i3 w2))
 (K (.bool true) w2)
def hollowaybook_Book_stillTexts_an : An := ⟨[(2, [(3, .int .i64)])], [(4, (14, .st 0 (.st 1 (.st 2 (.st 3 (.st 4 (.st 5 (.st 6 (.st 7 (.st 8 (.st 9 (.st 10 (.st 11 (.st 12 (.st 13 .done))))))))))))), 0))], []⟩
theorem hollowaybook_Book_stillTexts_lift {b_1 : Nat} {w : World} {K : Value → World → Prop} (h : hollowaybook_Book_stillTexts_sh b_1 w K) : Calls Tryz.prog fn_hollowaybook_Book_stillTexts #[.pointer (some ⟨b_1, 0, none⟩)] w fun e w' => ∃ v, e = .returned v ∧ K v w' :=
   lift_calls (A := hollowaybook_Book_stillTexts_an) (c := bodyOf Tryz.f46) (args := [.pointer (some ⟨b_1, 0, none⟩)]) orc orc_wide Tryz.func46 (by kernel_rfl) (by kernel_rfl) (Eq.mp (by kernel_rfl : hollowaybook_Book_stillTexts_sh b_1 w K = wpc orc Tryz.f46.ntmps hollowaybook_Book_stillTexts_an (bodyOf Tryz.f46) (argl 0 [.pointer (some ⟨b_1, 0, none⟩)]) w (retQ orc Tryz.f46.results.toList K)) h)

def hollowaybook_Book_stillInts_sh (b_1 : Nat) (w : World) (K : Value → World → Prop) : Prop :=
 ∃ (I1 : Int → World → Prop) (μ1 : Int → World → Nat), I1 (0 : Int) w ∧ ∀ (i3 : Int) (w2 : World), I1 i3 w2 →
 ∃ s4 : Sl, w2.cell? ⟨b_1, 2, none⟩ = some (s4.val) ∧
 brB (decide (i3 < (s4.len : Int)))
 (∀ w5 : World, w5 = World.drew w2 →
 ∃ s6 : Sl, held (Lw w5) ⟨b_1, 2, none⟩ (s6.val) ∧
 ∃ a7 : Addr, s6.ptr = some a7 ∧ 0 ≤ i3 ∧ i3 < (s6.len : Int) ∧
 ∃ s8 : Sl, held (Lw w5) (Addr.add a7 (Int.toNat i3 * 1)) (s8.val) ∧
 ∃ s9 : Sl, held (Lw w5) ⟨b_1, 3, none⟩ (s9.val) ∧
 ∃ a10 : Addr, s9.ptr = some a10 ∧ 0 ≤ i3 ∧ i3 < (s9.len : Int) ∧
 ∃ s11 : Sl, held (Lw w5) (Addr.add a10 (Int.toNat i3 * 1)) (s11.val) ∧
 Calls Tryz.prog fn_hollowaybook_SameInts #[s8.val, s11.val] w5 fun e12 w13 => ∃ b14 : Bool, e12 = .returned (.bool b14) ∧
 brB (!b14)
 (K (.bool false) w13)
 (I1 (wr (i3 + (1 : Int))) w13 ∧ μ1 (wr (i3 + (1 : Int))) w13 < μ1 i3 w2))
 (K (.bool true) w2)
def hollowaybook_Book_stillInts_an : An := ⟨[(2, [(3, .int .i64)])], [(4, (14, .st 0 (.st 1 (.st 2 (.st 3 (.st 4 (.st 5 (.st 6 (.st 7 (.st 8 (.st 9 (.st 10 (.st 11 (.st 12 (.st 13 .done))))))))))))), 0))], []⟩
theorem hollowaybook_Book_stillInts_lift {b_1 : Nat} {w : World} {K : Value → World → Prop} (h : hollowaybook_Book_stillInts_sh b_1 w K) : Calls Tryz.prog fn_hollowaybook_Book_stillInts #[.pointer (some ⟨b_1, 0, none⟩)] w fun e w' => ∃ v, e = .returned v ∧ K v w' :=
   lift_calls (A := hollowaybook_Book_stillInts_an) (c := bodyOf Tryz.f47) (args := [.pointer (some ⟨b_1, 0, none⟩)]) orc orc_wide Tryz.func47 (by kernel_rfl) (by kernel_rfl) (Eq.mp (by kernel_rfl : hollowaybook_Book_stillInts_sh b_1 w K = wpc orc Tryz.f47.ntmps hollowaybook_Book_stillInts_an (bodyOf Tryz.f47) (argl 0 [.pointer (some ⟨b_1, 0, none⟩)]) w (retQ orc Tryz.f47.results.toList K)) h)

def hollowaybook_Book_stillWords_sh (b_1 : Nat) (w : World) (K : Value → World → Prop) : Prop :=
 ∃ (I1 : Int → World → Prop) (μ1 : Int → World → Nat), I1 (0 : Int) w ∧ ∀ (i3 : Int) (w2 : World), I1 i3 w2 →
 ∃ s4 : Sl, w2.cell? ⟨b_1, 4, none⟩ = some (s4.val) ∧
 brB (decide (i3 < (s4.len : Int)))
 (∀ w5 : World, w5 = World.drew w2 →
 ∃ s6 : Sl, held (Lw w5) ⟨b_1, 4, none⟩ (s6.val) ∧
 ∃ a7 : Addr, s6.ptr = some a7 ∧ 0 ≤ i3 ∧ i3 < (s6.len : Int) ∧
 ∃ s8 : Sl, held (Lw w5) (Addr.add a7 (Int.toNat i3 * 1)) (s8.val) ∧
 ∃ s9 : Sl, held (Lw w5) ⟨b_1, 5, none⟩ (s9.val) ∧
 ∃ a10 : Addr, s9.ptr = some a10 ∧ 0 ≤ i3 ∧ i3 < (s9.len : Int) ∧
 ∃ s11 : Sl, held (Lw w5) (Addr.add a10 (Int.toNat i3 * 1)) (s11.val) ∧
 Calls Tryz.prog fn_hollowaybook_SameWords #[s8.val, s11.val] w5 fun e12 w13 => ∃ b14 : Bool, e12 = .returned (.bool b14) ∧
 brB (!b14)
 (K (.bool false) w13)
 (I1 (wr (i3 + (1 : Int))) w13 ∧ μ1 (wr (i3 + (1 : Int))) w13 < μ1 i3 w2))
 (K (.bool true) w2)
def hollowaybook_Book_stillWords_an : An := ⟨[(2, [(3, .int .i64)])], [(4, (14, .st 0 (.st 1 (.st 2 (.st 3 (.st 4 (.st 5 (.st 6 (.st 7 (.st 8 (.st 9 (.st 10 (.st 11 (.st 12 (.st 13 .done))))))))))))), 0))], []⟩
theorem hollowaybook_Book_stillWords_lift {b_1 : Nat} {w : World} {K : Value → World → Prop} (h : hollowaybook_Book_stillWords_sh b_1 w K) : Calls Tryz.prog fn_hollowaybook_Book_stillWords #[.pointer (some ⟨b_1, 0, none⟩)] w fun e w' => ∃ v, e = .returned v ∧ K v w' :=
   lift_calls (A := hollowaybook_Book_stillWords_an) (c := bodyOf Tryz.f48) (args := [.pointer (some ⟨b_1, 0, none⟩)]) orc orc_wide Tryz.func48 (by kernel_rfl) (by kernel_rfl) (Eq.mp (by kernel_rfl : hollowaybook_Book_stillWords_sh b_1 w K = wpc orc Tryz.f48.ntmps hollowaybook_Book_stillWords_an (bodyOf Tryz.f48) (argl 0 [.pointer (some ⟨b_1, 0, none⟩)]) w (retQ orc Tryz.f48.results.toList K)) h)

def hollowaybook_Book_stillSeens_sh (b_1 : Nat) (w : World) (K : Value → World → Prop) : Prop :=
 ∃ (I1 : Int → World → Prop) (μ1 : Int → World → Nat), I1 (0 : Int) w ∧ ∀ (i3 : Int) (w2 : World), I1 i3 w2 →
 ∃ s4 : Sl, w2.cell? ⟨b_1, 6, none⟩ = some (s4.val) ∧
 brB (decide (i3 < (s4.len : Int)))
 (∀ w5 : World, w5 = World.drew w2 →
 ∃ s6 : Sl, held (Lw w5) ⟨b_1, 6, none⟩ (s6.val) ∧
 ∃ a7 : Addr, s6.ptr = some a7 ∧ 0 ≤ i3 ∧ i3 < (s6.len : Int) ∧
 ∃ s8 : Sl, held (Lw w5) (Addr.add a7 (Int.toNat i3 * 1)) (s8.val) ∧
 ∃ s9 : Sl, held (Lw w5) ⟨b_1, 7, none⟩ (s9.val) ∧
 ∃ a10 : Addr, s9.ptr = some a10 ∧ 0 ≤ i3 ∧ i3 < (s9.len : Int) ∧
 ∃ s11 : Sl, held (Lw w5) (Addr.add a10 (Int.toNat i3 * 1)) (s11.val) ∧
 Calls Tryz.prog fn_hollowaybook_SameSeens #[s8.val, s11.val] w5 fun e12 w13 => ∃ b14 : Bool, e12 = .returned (.bool b14) ∧
 brB (!b14)
 (K (.bool false) w13)
 (I1 (wr (i3 + (1 : Int))) w13 ∧ μ1 (wr (i3 + (1 : Int))) w13 < μ1 i3 w2))
 (K (.bool true) w2)
def hollowaybook_Book_stillSeens_an : An := ⟨[(2, [(3, .int .i64)])], [(4, (14, .st 0 (.st 1 (.st 2 (.st 3 (.st 4 (.st 5 (.st 6 (.st 7 (.st 8 (.st 9 (.st 10 (.st 11 (.st 12 (.st 13 .done))))))))))))), 0))], []⟩
theorem hollowaybook_Book_stillSeens_lift {b_1 : Nat} {w : World} {K : Value → World → Prop} (h : hollowaybook_Book_stillSeens_sh b_1 w K) : Calls Tryz.prog fn_hollowaybook_Book_stillSeens #[.pointer (some ⟨b_1, 0, none⟩)] w fun e w' => ∃ v, e = .returned v ∧ K v w' :=
   lift_calls (A := hollowaybook_Book_stillSeens_an) (c := bodyOf Tryz.f49) (args := [.pointer (some ⟨b_1, 0, none⟩)]) orc orc_wide Tryz.func49 (by kernel_rfl) (by kernel_rfl) (Eq.mp (by kernel_rfl : hollowaybook_Book_stillSeens_sh b_1 w K = wpc orc Tryz.f49.ntmps hollowaybook_Book_stillSeens_an (bodyOf Tryz.f49) (argl 0 [.pointer (some ⟨b_1, 0, none⟩)]) w (retQ orc Tryz.f49.results.toList K)) h)

def hollowaybook_Book_stillCodes_sh (b_1 : Nat) (w : World) (K : Value → World → Prop) : Prop :=
 ∃ (I1 : Int → World → Prop) (μ1 : Int → World → Nat), I1 (0 : Int) w ∧ ∀ (i3 : Int) (w2 : World), I1 i3 w2 →
 ∃ s4 : Sl, w2.cell? ⟨b_1, 8, none⟩ = some (s4.val) ∧
 brB (decide (i3 < (s4.len : Int)))
 (∀ w5 : World, w5 = World.drew w2 →
 ∃ s6 : Sl, held (Lw w5) ⟨b_1, 8, none⟩ (s6.val) ∧
 ∃ a7 : Addr, s6.ptr = some a7 ∧ 0 ≤ i3 ∧ i3 < (s6.len : Int) ∧
 ∃ s8 : Sl, held (Lw w5) (Addr.add a7 (Int.toNat i3 * 1)) (s8.val) ∧
 ∃ s9 : Sl, held (Lw w5) ⟨b_1, 9, none⟩ (s9.val) ∧
 ∃ a10 : Addr, s9.ptr = some a10 ∧ 0 ≤ i3 ∧ i3 < (s9.len : Int) ∧
 ∃ s11 : Sl, held (Lw w5) (Addr.add a10 (Int.toNat i3 * 1)) (s11.val) ∧
 Calls Tryz.prog fn_hollowaybook_SameCodes #[s8.val, s11.val] w5 fun e12 w13 => ∃ b14 : Bool, e12 = .returned (.bool b14) ∧
 brB (!b14)
 (K (.bool false) w13)
 (I1 (wr (i3 + (1 : Int))) w13 ∧ μ1 (wr (i3 + (1 : Int))) w13 < μ1 i3 w2))
 (K (.bool true) w2)
def hollowaybook_Book_stillCodes_an : An := ⟨[(2, [(3, .int .i64)])], [(4, (14, .st 0 (.st 1 (.st 2 (.st 3 (.st 4 (.st 5 (.st 6 (.st 7 (.st 8 (.st 9 (.st 10 (.st 11 (.st 12 (.st 13 .done))))))))))))), 0))], []⟩
theorem hollowaybook_Book_stillCodes_lift {b_1 : Nat} {w : World} {K : Value → World → Prop} (h : hollowaybook_Book_stillCodes_sh b_1 w K) : Calls Tryz.prog fn_hollowaybook_Book_stillCodes #[.pointer (some ⟨b_1, 0, none⟩)] w fun e w' => ∃ v, e = .returned v ∧ K v w' :=
   lift_calls (A := hollowaybook_Book_stillCodes_an) (c := bodyOf Tryz.f50) (args := [.pointer (some ⟨b_1, 0, none⟩)]) orc orc_wide Tryz.func50 (by kernel_rfl) (by kernel_rfl) (Eq.mp (by kernel_rfl : hollowaybook_Book_stillCodes_sh b_1 w K = wpc orc Tryz.f50.ntmps hollowaybook_Book_stillCodes_an (bodyOf Tryz.f50) (argl 0 [.pointer (some ⟨b_1, 0, none⟩)]) w (retQ orc Tryz.f50.results.toList K)) h)

def hollowaybook_Book_stillExits_sh (b_1 : Nat) (w : World) (K : Value → World → Prop) : Prop :=
 ∃ (I1 : Int → World → Prop) (μ1 : Int → World → Nat), I1 (0 : Int) w ∧ ∀ (i3 : Int) (w2 : World), I1 i3 w2 →
 ∃ s4 : Sl, w2.cell? ⟨b_1, 10, none⟩ = some (s4.val) ∧
 brB (decide (i3 < (s4.len : Int)))
 (∀ w5 : World, w5 = World.drew w2 →
 ∃ s6 : Sl, held (Lw w5) ⟨b_1, 10, none⟩ (s6.val) ∧
 ∃ a7 : Addr, s6.ptr = some a7 ∧ 0 ≤ i3 ∧ i3 < (s6.len : Int) ∧
 ∃ s8 : Sl, held (Lw w5) (Addr.add a7 (Int.toNat i3 * 1)) (s8.val) ∧
 ∃ s9 : Sl, held (Lw w5) ⟨b_1, 11, none⟩ (s9.val) ∧
 ∃ a10 : Addr, s9.ptr = some a10 ∧ 0 ≤ i3 ∧ i3 < (s9.len : Int) ∧
 ∃ s11 : Sl, held (Lw w5) (Addr.add a10 (Int.toNat i3 * 1)) (s11.val) ∧
 Calls Tryz.prog fn_hollowaybook_SameExits #[s8.val, s11.val] w5 fun e12 w13 => ∃ b14 : Bool, e12 = .returned (.bool b14) ∧
 brB (!b14)
 (K (.bool false) w13)
 (I1 (wr (i3 + (1 : Int))) w13 ∧ μ1 (wr (i3 + (1 : Int))) w13 < μ1 i3 w2))
 (K (.bool true) w2)
def hollowaybook_Book_stillExits_an : An := ⟨[(2, [(3, .int .i64)])], [(4, (14, .st 0 (.st 1 (.st 2 (.st 3 (.st 4 (.st 5 (.st 6 (.st 7 (.st 8 (.st 9 (.st 10 (.st 11 (.st 12 (.st 13 .done))))))))))))), 0))], []⟩
theorem hollowaybook_Book_stillExits_lift {b_1 : Nat} {w : World} {K : Value → World → Prop} (h : hollowaybook_Book_stillExits_sh b_1 w K) : Calls Tryz.prog fn_hollowaybook_Book_stillExits #[.pointer (some ⟨b_1, 0, none⟩)] w fun e w' => ∃ v, e = .returned v ∧ K v w' :=
   lift_calls (A := hollowaybook_Book_stillExits_an) (c := bodyOf Tryz.f51) (args := [.pointer (some ⟨b_1, 0, none⟩)]) orc orc_wide Tryz.func51 (by kernel_rfl) (by kernel_rfl) (Eq.mp (by kernel_rfl : hollowaybook_Book_stillExits_sh b_1 w K = wpc orc Tryz.f51.ntmps hollowaybook_Book_stillExits_an (bodyOf Tryz.f51) (argl 0 [.pointer (some ⟨b_1, 0, none⟩)]) w (retQ orc Tryz.f51.results.toList K)) h)

def hollowaybook_Book_putExits_sh (b_1 : Nat) (w : World) (K : Value → World → Prop) : Prop :=
 ∃ (I1 : Int → World → Prop) (μ1 : Int → World → Nat), I1 (0 : Int) w ∧ ∀ (i3 : Int) (w2 : World), I1 i3 w2 →
 ∃ s4 : Sl, w2.cell? ⟨b_1, 10, none⟩ = some (s4.val) ∧
 brB (decide (i3 < (s4.len : Int)))
 (∃ s5 : Sl, w2.cell? ⟨b_1, 10, none⟩ = some (s5.val) ∧
 ∃ a6 : Addr, s5.ptr = some a6 ∧ 0 ≤ i3 ∧ i3 < (s5.len : Int) ∧
 ∃ s7 : Sl, w2.cell? (Addr.add a6 (Int.toNat i3 * 1)) = some (s7.val) ∧
 Calls Tryz.prog fn_hollowaybook_markExits #[.int .i64 i3, .int .i64 (0 : Int), .int .i64 (s7.len : Int)] w2 fun e8 w9 => ∃ s10 : Sl, e8 = .returned (s10.val) ∧
 ∃ (I2 : Int → World → Prop) (μ2 : Int → World → Nat), I2 (0 : Int) w9 ∧ ∀ (k12 : Int) (w11 : World), I2 k12 w11 →
 brB (decide (k12 < (s10.len : Int)))
 (∀ w13 : World, w13 = World.drew w11 →
 ∃ s14 : Sl, held (Lw w13) ⟨b_1, 10, none⟩ (s14.val) ∧
 ∃ a15 : Addr, s14.ptr = some a15 ∧ 0 ≤ i3 ∧ i3 < (s14.len : Int) ∧
 ∃ s16 : Sl, held (Lw w13) (Addr.add a15 (Int.toNat i3 * 1)) (s16.val) ∧
 ∃ a17 : Addr, s10.ptr = some a17 ∧ 0 ≤ k12 ∧ k12 < (s10.len : Int) ∧
 ∃ n18 n19 : Int, ∃ s20 s21 : Sl, held (Lw w13) (Addr.add a17 (Int.toNat k12 * 4)) (.int .i64 n18) ∧ held (Lw w13) (Addr.add (Addr.add a17 (Int.toNat k12 * 4)) 1) (.int .i64 n19) ∧ held (Lw w13) (Addr.add (Addr.add a17 (Int.toNat k12 * 4)) 2) (s20.val) ∧ held (Lw w13) (Addr.add (Addr.add a17 (Int.toNat k12 * 4)) 3) (s21.val) ∧
 ∃ a22 : Addr, s16.ptr = some a22 ∧ 0 ≤ k12 ∧ k12 < (s16.len : Int) ∧
 wrOk w13 (Addr.add a22 (Int.toNat k12 * 4)) 4 ∧ ∀ w23 : World, w23 = stW w13 (Addr.add a22 (Int.toNat k12 * 4)) 0 [.int .i64 n18, .int .i64 n19, s20.val, s21.val] →
 I2 (wr (k12 + (1 : Int))) w23 ∧ μ2 (wr (k12 + (1 : Int))) w23 < μ2 k12 w11)
 (I1 (wr (i3 + (1 : Int))) w11 ∧ μ1 (wr (i3 + (1 : Int))) w11 < μ1 i3 w2))
 (K (.tuple #[]) w2)
def hollowaybook_Book_putExits_an : An := ⟨[(1, [(2, .int .i64)]), (5, [(4, .int .i64)])], [(7, (13, .st 0 (.st 1 (.st 2 (.st 3 (.st 4 (.st 5 (.st 6 (.st 7 (.st 8 (.st 9 (.st 10 (.st 11 (.st 12 .done)))))))))))), 0))], []⟩
theorem hollowaybook_Book_putExits_lift {b_1 : Nat} {w : World} {K : Value → World → Prop} (h : hollowaybook_Book_putExits_sh b_1 w K) : Calls Tryz.prog fn_hollowaybook_Book_putExits #[.pointer (some ⟨b_1, 0, none⟩)] w fun e w' => ∃ v, e = .returned v ∧ K v w' :=
   lift_calls (A := hollowaybook_Book_putExits_an) (c := bodyOf Tryz.f52) (args := [.pointer (some ⟨b_1, 0, none⟩)]) orc orc_wide Tryz.func52 (by kernel_rfl) (by kernel_rfl) (Eq.mp (by kernel_rfl : hollowaybook_Book_putExits_sh b_1 w K = wpc orc Tryz.f52.ntmps hollowaybook_Book_putExits_an (bodyOf Tryz.f52) (argl 0 [.pointer (some ⟨b_1, 0, none⟩)]) w (retQ orc Tryz.f52.results.toList K)) h)

def hollowaybook_Book_putTexts_sh (b_1 : Nat) (w : World) (K : Value → World → Prop) : Prop :=
 ∃ (I1 : Int → World → Prop) (μ1 : Int → World → Nat), I1 (0 : Int) w ∧ ∀ (i3 : Int) (w2 : World), I1 i3 w2 →
 ∃ s4 : Sl, w2.cell? ⟨b_1, 0, none⟩ = some (s4.val) ∧
 brB (decide (i3 < (s4.len : Int)))
 (∃ s5 : Sl, w2.cell? ⟨b_1, 0, none⟩ = some (s5.val) ∧
 ∃ a6 : Addr, s5.ptr = some a6 ∧ 0 ≤ i3 ∧ i3 < (s5.len : Int) ∧
 ∃ s7 : Sl, w2.cell? (Addr.add a6 (Int.toNat i3 * 1)) = some (s7.val) ∧
 Calls Tryz.prog fn_hollowaybook_markTexts #[.int .i64 i3, .int .i64 (0 : Int), .int .i64 (s7.len : Int)] w2 fun e8 w9 => ∃ s10 : Sl, e8 = .returned (s10.val) ∧
 ∃ (I2 : Int → World → Prop) (μ2 : Int → World → Nat), I2 (0 : Int) w9 ∧ ∀ (k12 : Int) (w11 : World), I2 k12 w11 →
 brB (decide (k12 < (s10.len : Int)))
 (∀ w13 : World, w13 = World.drew w11 →
 ∃ s14 : Sl, held (Lw w13) ⟨b_1, 0, none⟩ (s14.val) ∧
 ∃ a15 : Addr, s14.ptr = some a15 ∧ 0 ≤ i3 ∧ i3 < (s14.len : Int) ∧
 ∃ s16 : Sl, held (Lw w13) (Addr.add a15 (Int.toNat i3 * 1)) (s16.val) ∧
 ∃ a17 : Addr, s10.ptr = some a17 ∧ 0 ≤ k12 ∧ k12 < (s10.len : Int) ∧
 ∃ t18 : ByteArray, held (Lw w13) (Addr.add a17 (Int.toNat k12 * 1)) (.string t18) ∧
 ∃ a19 : Addr, s16.ptr = some a19 ∧ 0 ≤ k12 ∧ k12 < (s16.len : Int) ∧
 wrOk w13 (Addr.add a19 (Int.toNat k12 * 1)) 1 ∧ ∀ w20 : World, w20 = stW w13 (Addr.add a19 (Int.toNat k12 * 1)) 0 [.string t18] →
 I2 (wr (k12 + (1 : Int))) w20 ∧ μ2 (wr (k12 + (1 : Int))) w20 < μ2 k12 w11)
 (I1 (wr (i3 + (1 : Int))) w11 ∧ μ1 (wr (i3 + (1 : Int))) w11 < μ1 i3 w2))
 (K (.tuple #[]) w2)
def hollowaybook_Book_putTexts_an : An := ⟨[(1, [(2, .int .i64)]), (5, [(4, .int .i64)])], [(7, (13, .st 0 (.st 1 (.st 2 (.st 3 (.st 4 (.st 5 (.st 6 (.st 7 (.st 8 (.st 9 (.st 10 (.st 11 (.st 12 .done)))))))))))), 0))], []⟩
theorem hollowaybook_Book_putTexts_lift {b_1 : Nat} {w : World} {K : Value → World → Prop} (h : hollowaybook_Book_putTexts_sh b_1 w K) : Calls Tryz.prog fn_hollowaybook_Book_putTexts #[.pointer (some ⟨b_1, 0, none⟩)] w fun e w' => ∃ v, e = .returned v ∧ K v w' :=
   lift_calls (A := hollowaybook_Book_putTexts_an) (c := bodyOf Tryz.f53) (args := [.pointer (some ⟨b_1, 0, none⟩)]) orc orc_wide Tryz.func53 (by kernel_rfl) (by kernel_rfl) (Eq.mp (by kernel_rfl : hollowaybook_Book_putTexts_sh b_1 w K = wpc orc Tryz.f53.ntmps hollowaybook_Book_putTexts_an (bodyOf Tryz.f53) (argl 0 [.pointer (some ⟨b_1, 0, none⟩)]) w (retQ orc Tryz.f53.results.toList K)) h)

def hollowaybook_Book_putInts_sh (b_1 : Nat) (w : World) (K : Value → World → Prop) : Prop :=
 ∃ (I1 : Int → World → Prop) (μ1 : Int → World → Nat), I1 (0 : Int) w ∧ ∀ (i3 : Int) (w2 : World), I1 i3 w2 →
 ∃ s4 : Sl, w2.cell? ⟨b_1, 2, none⟩ = some (s4.val) ∧
 brB (decide (i3 < (s4.len : Int)))
 (∃ s5 : Sl, w2.cell? ⟨b_1, 2, none⟩ = some (s5.val) ∧
 ∃ a6 : Addr, s5.ptr = some a6 ∧ 0 ≤ i3 ∧ i3 < (s5.len : Int) ∧
 ∃ s7 : Sl, w2.cell? (Addr.add a6 (Int.toNat i3 * 1)) = some (s7.val) ∧
 Calls Tryz.prog fn_hollowaybook_markInts #[.int .i64 i3, .int .i64 (0 : Int), .int .i64 (s7.len : Int)] w2 fun e8 w9 => ∃ s10 : Sl, e8 = .returned (s10.val) ∧
 ∃ (I2 : Int → World → Prop) (μ2 : Int → World → Nat), I2 (0 : Int) w9 ∧ ∀ (k12 : Int) (w11 : World), I2 k12 w11 →
 brB (decide (k12 < (s10.len : Int)))
 (∀ w13 : World, w13 = World.drew w11 →
 ∃ s14 : Sl, held (Lw w13) ⟨b_1, 2, none⟩ (s14.val) ∧
 ∃ a15 : Addr, s14.ptr = some a15 ∧ 0 ≤ i3 ∧ i3 < (s14.len : Int) ∧
 ∃ s16 : Sl, held (Lw w13) (Addr.add a15 (Int.toNat i3 * 1)) (s16.val) ∧
 ∃ a17 : Addr, s10.ptr = some a17 ∧ 0 ≤ k12 ∧ k12 < (s10.len : Int) ∧
 ∃ n18 : Int, held (Lw w13) (Addr.add a17 (Int.toNat k12 * 1)) (.int .i64 n18) ∧
 ∃ a19 : Addr, s16.ptr = some a19 ∧ 0 ≤ k12 ∧ k12 < (s16.len : Int) ∧
 wrOk w13 (Addr.add a19 (Int.toNat k12 * 1)) 1 ∧ ∀ w20 : World, w20 = stW w13 (Addr.add a19 (Int.toNat k12 * 1)) 0 [.int .i64 n18] →
 I2 (wr (k12 + (1 : Int))) w20 ∧ μ2 (wr (k12 + (1 : Int))) w20 < μ2 k12 w11)
 (I1 (wr (i3 + (1 : Int))) w11 ∧ μ1 (wr (i3 + (1 : Int))) w11 < μ1 i3 w2))
 (K (.tuple #[]) w2)
def hollowaybook_Book_putInts_an : An := ⟨[(1, [(2, .int .i64)]), (5, [(4, .int .i64)])], [(7, (13, .st 0 (.st 1 (.st 2 (.st 3 (.st 4 (.st 5 (.st 6 (.st 7 (.st 8 (.st 9 (.st 10 (.st 11 (.st 12 .done)))))))))))), 0))], []⟩
theorem hollowaybook_Book_putInts_lift {b_1 : Nat} {w : World} {K : Value → World → Prop} (h : hollowaybook_Book_putInts_sh b_1 w K) : Calls Tryz.prog fn_hollowaybook_Book_putInts #[.pointer (some ⟨b_1, 0, none⟩)] w fun e w' => ∃ v, e = .returned v ∧ K v w' :=
   lift_calls (A := hollowaybook_Book_putInts_an) (c := bodyOf Tryz.f54) (args := [.pointer (some ⟨b_1, 0, none⟩)]) orc orc_wide Tryz.func54 (by kernel_rfl) (by kernel_rfl) (Eq.mp (by kernel_rfl : hollowaybook_Book_putInts_sh b_1 w K = wpc orc Tryz.f54.ntmps hollowaybook_Book_putInts_an (bodyOf Tryz.f54) (argl 0 [.pointer (some ⟨b_1, 0, none⟩)]) w (retQ orc Tryz.f54.results.toList K)) h)

def hollowaybook_Book_putWords_sh (b_1 : Nat) (w : World) (K : Value → World → Prop) : Prop :=
 ∃ (I1 : Int → World → Prop) (μ1 : Int → World → Nat), I1 (0 : Int) w ∧ ∀ (i3 : Int) (w2 : World), I1 i3 w2 →
 ∃ s4 : Sl, w2.cell? ⟨b_1, 4, none⟩ = some (s4.val) ∧
 brB (decide (i3 < (s4.len : Int)))
 (∃ s5 : Sl, w2.cell? ⟨b_1, 4, none⟩ = some (s5.val) ∧
 ∃ a6 : Addr, s5.ptr = some a6 ∧ 0 ≤ i3 ∧ i3 < (s5.len : Int) ∧
 ∃ s7 : Sl, w2.cell? (Addr.add a6 (Int.toNat i3 * 1)) = some (s7.val) ∧
 Calls Tryz.prog fn_hollowaybook_markWords #[.int .i64 i3, .int .i64 (0 : Int), .int .i64 (s7.len : Int)] w2 fun e8 w9 => ∃ s10 : Sl, e8 = .returned (s10.val) ∧
 ∃ (I2 : Int → World → Prop) (μ2 : Int → World → Nat), I2 (0 : Int) w9 ∧ ∀ (k12 : Int) (w11 : World), I2 k12 w11 →
 brB (decide (k12 < (s10.len : Int)))
 (∀ w13 : World, w13 = World.drew w11 →
 ∃ s14 : Sl, held (Lw w13) ⟨b_1, 4, none⟩ (s14.val) ∧
 ∃ a15 : Addr, s14.ptr = some a15 ∧ 0 ≤ i3 ∧ i3 < (s14.len : Int) ∧
 ∃ s16 : Sl, held (Lw w13) (Addr.add a15 (Int.toNat i3 * 1)) (s16.val) ∧
 ∃ a17 : Addr, s10.ptr = some a17 ∧ 0 ≤ k12 ∧ k12 < (s10.len : Int) ∧
 ∃ t18 : ByteArray, ∃ n19 n20 : Int, ∃ b21 : Bool, held (Lw w13) (Addr.add a17 (Int.toNat k12 * 4)) (.string t18) ∧ held (Lw w13) (Addr.add (Addr.add a17 (Int.toNat k12 * 4)) 1) (.int .i64 n19) ∧ held (Lw w13) (Addr.add (Addr.add a17 (Int.toNat k12 * 4)) 2) (.int .i64 n20) ∧ held (Lw w13) (Addr.add (Addr.add a17 (Int.toNat k12 * 4)) 3) (.bool b21) ∧
 ∃ a22 : Addr, s16.ptr = some a22 ∧ 0 ≤ k12 ∧ k12 < (s16.len : Int) ∧
 wrOk w13 (Addr.add a22 (Int.toNat k12 * 4)) 4 ∧ ∀ w23 : World, w23 = stW w13 (Addr.add a22 (Int.toNat k12 * 4)) 0 [.string t18, .int .i64 n19, .int .i64 n20, .bool b21] →
 I2 (wr (k12 + (1 : Int))) w23 ∧ μ2 (wr (k12 + (1 : Int))) w23 < μ2 k12 w11)
 (I1 (wr (i3 + (1 : Int))) w11 ∧ μ1 (wr (i3 + (1 : Int))) w11 < μ1 i3 w2))
 (K (.tuple #[]) w2)
def hollowaybook_Book_putWords_an : An := ⟨[(1, [(2, .int .i64)]), (5, [(4, .int .i64)])], [(7, (13, .st 0 (.st 1 (.st 2 (.st 3 (.st 4 (.st 5 (.st 6 (.st 7 (.st 8 (.st 9 (.st 10 (.st 11 (.st 12 .done)))))))))))), 0))], []⟩
theorem hollowaybook_Book_putWords_lift {b_1 : Nat} {w : World} {K : Value → World → Prop} (h : hollowaybook_Book_putWords_sh b_1 w K) : Calls Tryz.prog fn_hollowaybook_Book_putWords #[.pointer (some ⟨b_1, 0, none⟩)] w fun e w' => ∃ v, e = .returned v ∧ K v w' :=
   lift_calls (A := hollowaybook_Book_putWords_an) (c := bodyOf Tryz.f55) (args := [.pointer (some ⟨b_1, 0, none⟩)]) orc orc_wide Tryz.func55 (by kernel_rfl) (by kernel_rfl) (Eq.mp (by kernel_rfl : hollowaybook_Book_putWords_sh b_1 w K = wpc orc Tryz.f55.ntmps hollowaybook_Book_putWords_an (bodyOf Tryz.f55) (argl 0 [.pointer (some ⟨b_1, 0, none⟩)]) w (retQ orc Tryz.f55.results.toList K)) h)

def hollowaybook_Book_putSeens_sh (b_1 : Nat) (w : World) (K : Value → World → Prop) : Prop :=
 ∃ (I1 : Int → World → Prop) (μ1 : Int → World → Nat), I1 (0 : Int) w ∧ ∀ (i3 : Int) (w2 : World), I1 i3 w2 →
 ∃ s4 : Sl, w2.cell? ⟨b_1, 6, none⟩ = some (s4.val) ∧
 brB (decide (i3 < (s4.len : Int)))
 (∃ s5 : Sl, w2.cell? ⟨b_1, 6, none⟩ = some (s5.val) ∧
 ∃ a6 : Addr, s5.ptr = some a6 ∧ 0 ≤ i3 ∧ i3 < (s5.len : Int) ∧
 ∃ s7 : Sl, w2.cell? (Addr.add a6 (Int.toNat i3 * 1)) = some (s7.val) ∧
 Calls Tryz.prog fn_hollowaybook_markSeens #[.int .i64 i3, .int .i64 (0 : Int), .int .i64 (s7.len : Int)] w2 fun e8 w9 => ∃ s10 : Sl, e8 = .returned (s10.val) ∧
 ∃ (I2 : Int → World → Prop) (μ2 : Int → World → Nat), I2 (0 : Int) w9 ∧ ∀ (k12 : Int) (w11 : World), I2 k12 w11 →
 brB (decide (k12 < (s10.len : Int)))
 (∀ w13 : World, w13 = World.drew w11 →
 ∃ s14 : Sl, held (Lw w13) ⟨b_1, 6, none⟩ (s14.val) ∧
 ∃ a15 : Addr, s14.ptr = some a15 ∧ 0 ≤ i3 ∧ i3 < (s14.len : Int) ∧
 ∃ s16 : Sl, held (Lw w13) (Addr.add a15 (Int.toNat i3 * 1)) (s16.val) ∧
 ∃ a17 : Addr, s10.ptr = some a17 ∧ 0 ≤ k12 ∧ k12 < (s10.len : Int) ∧
 ∃ n18 n19 : Int, ∃ n20 n21 : Int, held (Lw w13) (Addr.add a17 (Int.toNat k12 * 4)) (.int .i64 n18) ∧ held (Lw w13) (Addr.add (Addr.add a17 (Int.toNat k12 * 4)) 1) (.int .i64 n19) ∧ held (Lw w13) (Addr.add (Addr.add a17 (Int.toNat k12 * 4)) 2) (.int .i64 n20) ∧ held (Lw w13) (Addr.add (Addr.add a17 (Int.toNat k12 * 4)) 3) (.int .i64 n21) ∧
 ∃ a22 : Addr, s16.ptr = some a22 ∧ 0 ≤ k12 ∧ k12 < (s16.len : Int) ∧
 wrOk w13 (Addr.add a22 (Int.toNat k12 * 4)) 4 ∧ ∀ w23 : World, w23 = stW w13 (Addr.add a22 (Int.toNat k12 * 4)) 0 [.int .i64 n18, .int .i64 n19, .int .i64 n20, .int .i64 n21] →
 I2 (wr (k12 + (1 : Int))) w23 ∧ μ2 (wr (k12 + (1 : Int))) w23 < μ2 k12 w11)
 (I1 (wr (i3 + (1 : Int))) w11 ∧ μ1 (wr (i3 + (1 : Int))) w11 < μ1 i3 w2))
 (K (.tuple #[]) w2)
def hollowaybook_Book_putSeens_an : An := ⟨[(1, [(2, .int .i64)]), (5, [(4, .int .i64)])], [(7, (13, .st 0 (.st 1 (.st 2 (.st 3 (.st 4 (.st 5 (.st 6 (.st 7 (.st 8 (.st 9 (.st 10 (.st 11 (.st 12 .done)))))))))))), 0))], []⟩
theorem hollowaybook_Book_putSeens_lift {b_1 : Nat} {w : World} {K : Value → World → Prop} (h : hollowaybook_Book_putSeens_sh b_1 w K) : Calls Tryz.prog fn_hollowaybook_Book_putSeens #[.pointer (some ⟨b_1, 0, none⟩)] w fun e w' => ∃ v, e = .returned v ∧ K v w' :=
   lift_calls (A := hollowaybook_Book_putSeens_an) (c := bodyOf Tryz.f56) (args := [.pointer (some ⟨b_1, 0, none⟩)]) orc orc_wide Tryz.func56 (by kernel_rfl) (by kernel_rfl) (Eq.mp (by kernel_rfl : hollowaybook_Book_putSeens_sh b_1 w K = wpc orc Tryz.f56.ntmps hollowaybook_Book_putSeens_an (bodyOf Tryz.f56) (argl 0 [.pointer (some ⟨b_1, 0, none⟩)]) w (retQ orc Tryz.f56.results.toList K)) h)

def hollowaybook_Book_putCodes_sh (b_1 : Nat) (w : World) (K : Value → World → Prop) : Prop :=
 ∃ (I1 : Int → World → Prop) (μ1 : Int → World → Nat), I1 (0 : Int) w ∧ ∀ (i3 : Int) (w2 : World), I1 i3 w2 →
 ∃ s4 : Sl, w2.cell? ⟨b_1, 8, none⟩ = some (s4.val) ∧
 brB (decide (i3 < (s4.len : Int)))
 (∃ s5 : Sl, w2.cell? ⟨b_1, 8, none⟩ = some (s5.val) ∧
 ∃ a6 : Addr, s5.ptr = some a6 ∧ 0 ≤ i3 ∧ i3 < (s5.len : Int) ∧
 ∃ s7 : Sl, w2.cell? (Addr.add a6 (Int.toNat i3 * 1)) = some (s7.val) ∧
 Calls Tryz.prog fn_hollowaybook_markCodes #[.int .i64 i3, .int .i64 (0 : Int), .int .i64 (s7.len : Int)] w2 fun e8 w9 => ∃ s10 : Sl, e8 = .returned (s10.val) ∧
 ∃ (I2 : Int → World → Prop) (μ2 : Int → World → Nat), I2 (0 : Int) w9 ∧ ∀ (k12 : Int) (w11 : World), I2 k12 w11 →
 brB (decide (k12 < (s10.len : Int)))
 (∀ w13 : World, w13 = World.drew w11 →
 ∃ s14 : Sl, held (Lw w13) ⟨b_1, 8, none⟩ (s14.val) ∧
 ∃ a15 : Addr, s14.ptr = some a15 ∧ 0 ≤ i3 ∧ i3 < (s14.len : Int) ∧
 ∃ s16 : Sl, held (Lw w13) (Addr.add a15 (Int.toNat i3 * 1)) (s16.val) ∧
 ∃ a17 : Addr, s10.ptr = some a17 ∧ 0 ≤ k12 ∧ k12 < (s10.len : Int) ∧
 ∃ n18 n19 : Int, ∃ n20 n21 n22 : Int, held (Lw w13) (Addr.add a17 (Int.toNat k12 * 5)) (.int .i64 n18) ∧ held (Lw w13) (Addr.add (Addr.add a17 (Int.toNat k12 * 5)) 1) (.int .i64 n19) ∧ held (Lw w13) (Addr.add (Addr.add a17 (Int.toNat k12 * 5)) 2) (.int .i64 n20) ∧ held (Lw w13) (Addr.add (Addr.add a17 (Int.toNat k12 * 5)) 3) (.int .i64 n21) ∧ held (Lw w13) (Addr.add (Addr.add a17 (Int.toNat k12 * 5)) 4) (.int .i64 n22) ∧
 ∃ a23 : Addr, s16.ptr = some a23 ∧ 0 ≤ k12 ∧ k12 < (s16.len : Int) ∧
 wrOk w13 (Addr.add a23 (Int.toNat k12 * 5)) 5 ∧ ∀ w24 : World, w24 = stW w13 (Addr.add a23 (Int.toNat k12 * 5)) 0 [.int .i64 n18, .int .i64 n19, .int .i64 n20, .int .i64 n21, .int .i64 n22] →
 I2 (wr (k12 + (1 : Int))) w24 ∧ μ2 (wr (k12 + (1 : Int))) w24 < μ2 k12 w11)
 (I1 (wr (i3 + (1 : Int))) w11 ∧ μ1 (wr (i3 + (1 : Int))) w11 < μ1 i3 w2))
 (K (.tuple #[]) w2)
def hollowaybook_Book_putCodes_an : An := ⟨[(1, [(2, .int .i64)]), (5, [(4, .int .i64)])], [(7, (13, .st 0 (.st 1 (.st 2 (.st 3 (.st 4 (.st 5 (.st 6 (.st 7 (.st 8 (.st 9 (.st 10 (.st 11 (.st 12 .done)))))))))))), 0))], []⟩
theorem hollowaybook_Book_putCodes_lift {b_1 : Nat} {w : World} {K : Value → World → Prop} (h : hollowaybook_Book_putCodes_sh b_1 w K) : Calls Tryz.prog fn_hollowaybook_Book_putCodes #[.pointer (some ⟨b_1, 0, none⟩)] w fun e w' => ∃ v, e = .returned v ∧ K v w' :=
   lift_calls (A := hollowaybook_Book_putCodes_an) (c := bodyOf Tryz.f57) (args := [.pointer (some ⟨b_1, 0, none⟩)]) orc orc_wide Tryz.func57 (by kernel_rfl) (by kernel_rfl) (Eq.mp (by kernel_rfl : hollowaybook_Book_putCodes_sh b_1 w K = wpc orc Tryz.f57.ntmps hollowaybook_Book_putCodes_an (bodyOf Tryz.f57) (argl 0 [.pointer (some ⟨b_1, 0, none⟩)]) w (retQ orc Tryz.f57.results.toList K)) h)

def hollowaybook_Book_growTexts_sh (b_1 : Nat) (w : World) (K : Value → World → Prop) : Prop :=
 ∃ (I1 : Sl → Int → World → Prop) (μ1 : Sl → Int → World → Nat), I1 (⟨none, 0, 0⟩ : Sl) (0 : Int) w ∧ ∀ (out16 : Sl) (i3 : Int) (w2 : World), I1 out16 i3 w2 →
 ∃ s4 : Sl, w2.cell? ⟨b_1, 0, none⟩ = some (s4.val) ∧
 brB (decide (i3 < (s4.len : Int)))
 (∃ s5 : Sl, w2.cell? ⟨b_1, 0, none⟩ = some (s5.val) ∧
 ∃ a6 : Addr, s5.ptr = some a6 ∧ 0 ≤ i3 ∧ i3 < (s5.len : Int) ∧
 ∃ s7 : Sl, w2.cell? (Addr.add a6 (Int.toNat i3 * 1)) = some (s7.val) ∧
 ∃ (I2 : Sl → Int → World → Prop) (μ2 : Sl → Int → World → Nat), I2 s7 (0 : Int) w2 ∧ ∀ (l10 : Sl) (n9 : Int) (w8 : World), I2 l10 n9 w8 →
 brB (decide (n9 < (12 : Int)))
 (Calls Tryz.prog fn_hollowaybook_markTexts #[.int .i64 i3, .int .i64 (l10.len : Int), .int .i64 (1 : Int)] w8 fun e11 w12 => ∃ s13 : Sl, e11 = .returned (s13.val) ∧
 ∃ s14 : Sl, ∃ w15 : World, (Builtin.append_ #[T_sl_string, T_sl_string] T_sl_string #[l10.val, s13.val]).run Tryz.prog w12 = .ok (s14.val) w15 ∧
 I2 s14 (wr (n9 + (1 : Int))) w15 ∧ μ2 s14 (wr (n9 + (1 : Int))) w15 < μ2 l10 n9 w8)
 (Calls Tryz.prog fn_hollowaybook_markTexts #[.int .i64 i3, .int .i64 (l10.len : Int), .int .i64 (60 : Int)] w8 fun e17 w18 => ∃ s19 : Sl, e17 = .returned (s19.val) ∧
 ∃ s20 : Sl, ∃ w21 : World, (Builtin.append_ #[T_sl_string, T_sl_string] T_sl_string #[l10.val, s19.val]).run Tryz.prog w18 = .ok (s20.val) w21 ∧
 ∀ (b22 : Nat) (w23 : World), b22 = w21.heap.size → w23 = World.alloc w21 (.cells #[s20.val] T_sl_string) →
 ∃ s24 : Sl, ∃ w25 : World, (Builtin.append_ #[T_sl_sl_string, T_sl_sl_string] T_sl_sl_string #[out16.val, .slice (some ⟨b22, 0, none⟩) 1 1]).run Tryz.prog w23 = .ok (s24.val) w25 ∧
 I1 s24 (wr (i3 + (1 : Int))) w25 ∧ μ1 s24 (wr (i3 + (1 : Int))) w25 < μ1 out16 i3 w2))
 (K (out16.val) w2)
def hollowaybook_Book_growTexts_an : An := ⟨[(3, [(3, .sl), (4, .int .i64)]), (7, [(5, .sl), (6, .int .i64)])], [], []⟩
theorem hollowaybook_Book_growTexts_lift {b_1 : Nat} {w : World} {K : Value → World → Prop} (h : hollowaybook_Book_growTexts_sh b_1 w K) : Calls Tryz.prog fn_hollowaybook_Book_growTexts #[.pointer (some ⟨b_1, 0, none⟩)] w fun e w' => ∃ v, e = .returned v ∧ K v w' :=
   lift_calls (A := hollowaybook_Book_growTexts_an) (c := bodyOf Tryz.f58) (args := [.pointer (some ⟨b_1, 0, none⟩)]) orc orc_wide Tryz.func58 (by kernel_rfl) (by kernel_rfl) (Eq.mp (by kernel_rfl : hollowaybook_Book_growTexts_sh b_1 w K = wpc orc Tryz.f58.ntmps hollowaybook_Book_growTexts_an (bodyOf Tryz.f58) (argl 0 [.pointer (some ⟨b_1, 0, none⟩)]) w (retQ orc Tryz.f58.results.toList K)) h)

def hollowaybook_Book_growInts_sh (b_1 : Nat) (w : World) (K : Value → World → Prop) : Prop :=
 ∃ (I1 : Sl → Int → World → Prop) (μ1 : Sl → Int → World → Nat), I1 (⟨none, 0, 0⟩ : Sl) (0 : Int) w ∧ ∀ (out16 : Sl) (i3 : Int) (w2 : World), I1 out16 i3 w2 →
 ∃ s4 : Sl, w2.cell? ⟨b_1, 2, none⟩ = some (s4.val) ∧
 brB (decide (i3 < (s4.len : Int)))
 (∃ s5 : Sl, w2.cell? ⟨b_1, 2, none⟩ = some (s5.val) ∧
 ∃ a6 : Addr, s5.ptr = some a6 ∧ 0 ≤ i3 ∧ i3 < (s5.len : Int) ∧
 ∃ s7 : Sl, w2.cell? (Addr.add a6 (Int.toNat i3 * 1)) = some (s7.val) ∧
 ∃ (I2 : Sl → Int → World → Prop) (μ2 : Sl → Int → World → Nat), I2 s7 (0 : Int) w2 ∧ ∀ (l10 : Sl) (n9 : Int) (w8 : World), I2 l10 n9 w8 →
 brB (decide (n9 < (12 : Int)))
 (Calls Tryz.prog fn_hollowaybook_markInts #[.int .i64 i3, .int .i64 (l10.len : Int), .int .i64 (1 : Int)] w8 fun e11 w12 => ∃ s13 : Sl, e11 = .returned (s13.val) ∧
 ∃ s14 : Sl, ∃ w15 : World, (Builtin.append_ #[T_sl_int, T_sl_int] T_sl_int #[l10.val, s13.val]).run Tryz.prog w12 = .ok (s14.val) w15 ∧
 I2 s14 (wr (n9 + (1 : Int))) w15 ∧ μ2 s14 (wr (n9 + (1 : Int))) w15 < μ2 l10 n9 w8)
 (Calls Tryz.prog fn_hollowaybook_markInts #[.int .i64 i3, .int .i64 (l10.len : Int), .int .i64 (60 : Int)] w8 fun e17 w18 => ∃ s19 : Sl, e17 = .returned (s19.val) ∧
 ∃ s20 : Sl, ∃ w21 : World, (Builtin.append_ #[T_sl_int, T_sl_int] T_sl_int #[l10.val, s19.val]).run Tryz.prog w18 = .ok (s20.val) w21 ∧
 ∀ (b22 : Nat) (w23 : World), b22 = w21.heap.size → w23 = World.alloc w21 (.cells #[s20.val] T_sl_int) →
 ∃ s24 : Sl, ∃ w25 : World, (Builtin.append_ #[T_sl_sl_int, T_sl_sl_int] T_sl_sl_int #[out16.val, .slice (some ⟨b22, 0, none⟩) 1 1]).run Tryz.prog w23 = .ok (s24.val) w25 ∧
 I1 s24 (wr (i3 + (1 : Int))) w25 ∧ μ1 s24 (wr (i3 + (1 : Int))) w25 < μ1 out16 i3 w2))
 (K (out16.val) w2)
def hollowaybook_Book_growInts_an : An := ⟨[(3, [(3, .sl), (4, .int .i64)]), (7, [(5, .sl), (6, .int .i64)])], [], []⟩
theorem hollowaybook_Book_growInts_lift {b_1 : Nat} {w : World} {K : Value → World → Prop} (h : hollowaybook_Book_growInts_sh b_1 w K) : Calls Tryz.prog fn_hollowaybook_Book_growInts #[.pointer (some ⟨b_1, 0, none⟩)] w fun e w' => ∃ v, e = .returned v ∧ K v w' :=
   lift_calls (A := hollowaybook_Book_growInts_an) (c := bodyOf Tryz.f59) (args := [.pointer (some ⟨b_1, 0, none⟩)]) orc orc_wide Tryz.func59 (by kernel_rfl) (by kernel_rfl) (Eq.mp (by kernel_rfl : hollowaybook_Book_growInts_sh b_1 w K = wpc orc Tryz.f59.ntmps hollowaybook_Book_growInts_an (bodyOf Tryz.f59) (argl 0 [.pointer (some ⟨b_1, 0, none⟩)]) w (retQ orc Tryz.f59.results.toList K)) h)

def hollowaybook_Book_growWords_sh (b_1 : Nat) (w : World) (K : Value → World → Prop) : Prop :=
 ∃ (I1 : Sl → Int → World → Prop) (μ1 : Sl → Int → World → Nat), I1 (⟨none, 0, 0⟩ : Sl) (0 : Int) w ∧ ∀ (out16 : Sl) (i3 : Int) (w2 : World), I1 out16 i3 w2 →
 ∃ s4 : Sl, w2.cell? ⟨b_1, 4, none⟩ = some (s4.val) ∧
 brB (decide (i3 < (s4.len : Int)))
 (∃ s5 : Sl, w2.cell? ⟨b_1, 4, none⟩ = some (s5.val) ∧
 ∃ a6 : Addr, s5.ptr = some a6 ∧ 0 ≤ i3 ∧ i3 < (s5.len : Int) ∧
 ∃ s7 : Sl, w2.cell? (Addr.add a6 (Int.toNat i3 * 1)) = some (s7.val) ∧
 ∃ (I2 : Sl → Int → World → Prop) (μ2 : Sl → Int → World → Nat), I2 s7 (0 : Int) w2 ∧ ∀ (l10 : Sl) (n9 : Int) (w8 : World), I2 l10 n9 w8 →
 brB (decide (n9 < (12 : Int)))
 (Calls Tryz.prog fn_hollowaybook_markWords #[.int .i64 i3, .int .i64 (l10.len : Int), .int .i64 (1 : Int)] w8 fun e11 w12 => ∃ s13 : Sl, e11 = .returned (s13.val) ∧
 ∃ s14 : Sl, ∃ w15 : World, (Builtin.append_ #[T_sl_api_Word, T_sl_api_Word] T_sl_api_Word #[l10.val, s13.val]).run Tryz.prog w12 = .ok (s14.val) w15 ∧
 I2 s14 (wr (n9 + (1 : Int))) w15 ∧ μ2 s14 (wr (n9 + (1 : Int))) w15 < μ2 l10 n9 w8)
 (Calls Tryz.prog fn_hollowaybook_markWords #[.int .i64 i3, .int .i64 (l10.len : Int), .int .i64 (60 : Int)] w8 fun e17 w18 => ∃ s19 : Sl, e17 = .returned (s19.val) ∧
 ∃ s20 : Sl, ∃ w21 : World, (Builtin.append_ #[T_sl_api_Word, T_sl_api_Word] T_sl_api_Word #[l10.val, s19.val]).run Tryz.prog w18 = .ok (s20.val) w21 ∧
 ∀ (b22 : Nat) (w23 : World), b22 = w21.heap.size → w23 = World.alloc w21 (.cells #[s20.val] T_sl_api_Word) →
 ∃ s24 : Sl, ∃ w25 : World, (Builtin.append_ #[T_sl_sl_api_Word, T_sl_sl_api_Word] T_sl_sl_api_Word #[out16.val, .slice (some ⟨b22, 0, none⟩) 1 1]).run Tryz.prog w23 = .ok (s24.val) w25 ∧
 I1 s24 (wr (i3 + (1 : Int))) w25 ∧ μ1 s24 (wr (i3 + (1 : Int))) w25 < μ1 out16 i3 w2))
 (K (out16.val) w2)
def hollowaybook_Book_growWords_an : An := ⟨[(3, [(3, .sl), (4, .int .i64)]), (7, [(5, .sl), (6, .int .i64)])], [], []⟩
theorem hollowaybook_Book_growWords_lift {b_1 : Nat} {w : World} {K : Value → World → Prop} (h : hollowaybook_Book_growWords_sh b_1 w K) : Calls Tryz.prog fn_hollowaybook_Book_growWords #[.pointer (some ⟨b_1, 0, none⟩)] w fun e w' => ∃ v, e = .returned v ∧ K v w' :=
   lift_calls (A := hollowaybook_Book_growWords_an) (c := bodyOf Tryz.f60) (args := [.pointer (some ⟨b_1, 0, none⟩)]) orc orc_wide Tryz.func60 (by kernel_rfl) (by kernel_rfl) (Eq.mp (by kernel_rfl : hollowaybook_Book_growWords_sh b_1 w K = wpc orc Tryz.f60.ntmps hollowaybook_Book_growWords_an (bodyOf Tryz.f60) (argl 0 [.pointer (some ⟨b_1, 0, none⟩)]) w (retQ orc Tryz.f60.results.toList K)) h)

def hollowaybook_Book_growSeens_sh (b_1 : Nat) (w : World) (K : Value → World → Prop) : Prop :=
 ∃ (I1 : Sl → Int → World → Prop) (μ1 : Sl → Int → World → Nat), I1 (⟨none, 0, 0⟩ : Sl) (0 : Int) w ∧ ∀ (out16 : Sl) (i3 : Int) (w2 : World), I1 out16 i3 w2 →
 ∃ s4 : Sl, w2.cell? ⟨b_1, 6, none⟩ = some (s4.val) ∧
 brB (decide (i3 < (s4.len : Int)))
 (∃ s5 : Sl, w2.cell? ⟨b_1, 6, none⟩ = some (s5.val) ∧
 ∃ a6 : Addr, s5.ptr = some a6 ∧ 0 ≤ i3 ∧ i3 < (s5.len : Int) ∧
 ∃ s7 : Sl, w2.cell? (Addr.add a6 (Int.toNat i3 * 1)) = some (s7.val) ∧
 ∃ (I2 : Sl → Int → World → Prop) (μ2 : Sl → Int → World → Nat), I2 s7 (0 : Int) w2 ∧ ∀ (l10 : Sl) (n9 : Int) (w8 : World), I2 l10 n9 w8 →
 brB (decide (n9 < (12 : Int)))
 (Calls Tryz.prog fn_hollowaybook_markSeens #[.int .i64 i3, .int .i64 (l10.len : Int), .int .i64 (1 : Int)] w8 fun e11 w12 => ∃ s13 : Sl, e11 = .returned (s13.val) ∧
 ∃ s14 : Sl, ∃ w15 : World, (Builtin.append_ #[T_sl_api_Seen, T_sl_api_Seen] T_sl_api_Seen #[l10.val, s13.val]).run Tryz.prog w12 = .ok (s14.val) w15 ∧
 I2 s14 (wr (n9 + (1 : Int))) w15 ∧ μ2 s14 (wr (n9 + (1 : Int))) w15 < μ2 l10 n9 w8)
 (Calls Tryz.prog fn_hollowaybook_markSeens #[.int .i64 i3, .int .i64 (l10.len : Int), .int .i64 (60 : Int)] w8 fun e17 w18 => ∃ s19 : Sl, e17 = .returned (s19.val) ∧
 ∃ s20 : Sl, ∃ w21 : World, (Builtin.append_ #[T_sl_api_Seen, T_sl_api_Seen] T_sl_api_Seen #[l10.val, s19.val]).run Tryz.prog w18 = .ok (s20.val) w21 ∧
 ∀ (b22 : Nat) (w23 : World), b22 = w21.heap.size → w23 = World.alloc w21 (.cells #[s20.val] T_sl_api_Seen) →
 ∃ s24 : Sl, ∃ w25 : World, (Builtin.append_ #[T_sl_sl_api_Seen, T_sl_sl_api_Seen] T_sl_sl_api_Seen #[out16.val, .slice (some ⟨b22, 0, none⟩) 1 1]).run Tryz.prog w23 = .ok (s24.val) w25 ∧
 I1 s24 (wr (i3 + (1 : Int))) w25 ∧ μ1 s24 (wr (i3 + (1 : Int))) w25 < μ1 out16 i3 w2))
 (K (out16.val) w2)
def hollowaybook_Book_growSeens_an : An := ⟨[(3, [(3, .sl), (4, .int .i64)]), (7, [(5, .sl), (6, .int .i64)])], [], []⟩
theorem hollowaybook_Book_growSeens_lift {b_1 : Nat} {w : World} {K : Value → World → Prop} (h : hollowaybook_Book_growSeens_sh b_1 w K) : Calls Tryz.prog fn_hollowaybook_Book_growSeens #[.pointer (some ⟨b_1, 0, none⟩)] w fun e w' => ∃ v, e = .returned v ∧ K v w' :=
   lift_calls (A := hollowaybook_Book_growSeens_an) (c := bodyOf Tryz.f61) (args := [.pointer (some ⟨b_1, 0, none⟩)]) orc orc_wide Tryz.func61 (by kernel_rfl) (by kernel_rfl) (Eq.mp (by kernel_rfl : hollowaybook_Book_growSeens_sh b_1 w K = wpc orc Tryz.f61.ntmps hollowaybook_Book_growSeens_an (bodyOf Tryz.f61) (argl 0 [.pointer (some ⟨b_1, 0, none⟩)]) w (retQ orc Tryz.f61.results.toList K)) h)

def hollowaybook_Book_growCodes_sh (b_1 : Nat) (w : World) (K : Value → World → Prop) : Prop :=
 ∃ (I1 : Sl → Int → World → Prop) (μ1 : Sl → Int → World → Nat), I1 (⟨none, 0, 0⟩ : Sl) (0 : Int) w ∧ ∀ (out16 : Sl) (i3 : Int) (w2 : World), I1 out16 i3 w2 →
 ∃ s4 : Sl, w2.cell? ⟨b_1, 8, none⟩ = some (s4.val) ∧
 brB (decide (i3 < (s4.len : Int)))
 (∃ s5 : Sl, w2.cell? ⟨b_1, 8, none⟩ = some (s5.val) ∧
 ∃ a6 : Addr, s5.ptr = some a6 ∧ 0 ≤ i3 ∧ i3 < (s5.len : Int) ∧
 ∃ s7 : Sl, w2.cell? (Addr.add a6 (Int.toNat i3 * 1)) = some (s7.val) ∧
 ∃ (I2 : Sl → Int → World → Prop) (μ2 : Sl → Int → World → Nat), I2 s7 (0 : Int) w2 ∧ ∀ (l10 : Sl) (n9 : Int) (w8 : World), I2 l10 n9 w8 →
 brB (decide (n9 < (12 : Int)))
 (Calls Tryz.prog fn_hollowaybook_markCodes #[.int .i64 i3, .int .i64 (l10.len : Int), .int .i64 (1 : Int)] w8 fun e11 w12 => ∃ s13 : Sl, e11 = .returned (s13.val) ∧
 ∃ s14 : Sl, ∃ w15 : World, (Builtin.append_ #[T_sl_api_Ins, T_sl_api_Ins] T_sl_api_Ins #[l10.val, s13.val]).run Tryz.prog w12 = .ok (s14.val) w15 ∧
 I2 s14 (wr (n9 + (1 : Int))) w15 ∧ μ2 s14 (wr (n9 + (1 : Int))) w15 < μ2 l10 n9 w8)
 (Calls Tryz.prog fn_hollowaybook_markCodes #[.int .i64 i3, .int .i64 (l10.len : Int), .int .i64 (60 : Int)] w8 fun e17 w18 => ∃ s19 : Sl, e17 = .returned (s19.val) ∧
 ∃ s20 : Sl, ∃ w21 : World, (Builtin.append_ #[T_sl_api_Ins, T_sl_api_Ins] T_sl_api_Ins #[l10.val, s19.val]).run Tryz.prog w18 = .ok (s20.val) w21 ∧
 ∀ (b22 : Nat) (w23 : World), b22 = w21.heap.size → w23 = World.alloc w21 (.cells #[s20.val] T_sl_api_Ins) →
 ∃ s24 : Sl, ∃ w25 : World, (Builtin.append_ #[T_sl_sl_api_Ins, T_sl_sl_api_Ins] T_sl_sl_api_Ins #[out16.val, .slice (some ⟨b22, 0, none⟩) 1 1]).run Tryz.prog w23 = .ok (s24.val) w25 ∧
 I1 s24 (wr (i3 + (1 : Int))) w25 ∧ μ1 s24 (wr (i3 + (1 : Int))) w25 < μ1 out16 i3 w2))
 (K (out16.val) w2)
def hollowaybook_Book_growCodes_an : An := ⟨[(3, [(3, .sl), (4, .int .i64)]), (7, [(5, .sl), (6, .int .i64)])], [], []⟩
theorem hollowaybook_Book_growCodes_lift {b_1 : Nat} {w : World} {K : Value → World → Prop} (h : hollowaybook_Book_growCodes_sh b_1 w K) : Calls Tryz.prog fn_hollowaybook_Book_growCodes #[.pointer (some ⟨b_1, 0, none⟩)] w fun e w' => ∃ v, e = .returned v ∧ K v w' :=
   lift_calls (A := hollowaybook_Book_growCodes_an) (c := bodyOf Tryz.f62) (args := [.pointer (some ⟨b_1, 0, none⟩)]) orc orc_wide Tryz.func62 (by kernel_rfl) (by kernel_rfl) (Eq.mp (by kernel_rfl : hollowaybook_Book_growCodes_sh b_1 w K = wpc orc Tryz.f62.ntmps hollowaybook_Book_growCodes_an (bodyOf Tryz.f62) (argl 0 [.pointer (some ⟨b_1, 0, none⟩)]) w (retQ orc Tryz.f62.results.toList K)) h)

def hollowaybook_Book_growExits_sh (b_1 : Nat) (w : World) (K : Value → World → Prop) : Prop :=
 ∃ (I1 : Sl → Int → World → Prop) (μ1 : Sl → Int → World → Nat), I1 (⟨none, 0, 0⟩ : Sl) (0 : Int) w ∧ ∀ (out16 : Sl) (i3 : Int) (w2 : World), I1 out16 i3 w2 →
 ∃ s4 : Sl, w2.cell? ⟨b_1, 10, none⟩ = some (s4.val) ∧
 brB (decide (i3 < (s4.len : Int)))
 (∃ s5 : Sl, w2.cell? ⟨b_1, 10, none⟩ = some (s5.val) ∧
 ∃ a6 : Addr, s5.ptr = some a6 ∧ 0 ≤ i3 ∧ i3 < (s5.len : Int) ∧
 ∃ s7 : Sl, w2.cell? (Addr.add a6 (Int.toNat i3 * 1)) = some (s7.val) ∧
 ∃ (I2 : Sl → Int → World → Prop) (μ2 : Sl → Int → World → Nat), I2 s7 (0 : Int) w2 ∧ ∀ (l10 : Sl) (n9 : Int) (w8 : World), I2 l10 n9 w8 →
 brB (decide (n9 < (12 : Int)))
 (Calls Tryz.prog fn_hollowaybook_markExits #[.int .i64 i3, .int .i64 (l10.len : Int), .int .i64 (1 : Int)] w8 fun e11 w12 => ∃ s13 : Sl, e11 = .returned (s13.val) ∧
 ∃ s14 : Sl, ∃ w15 : World, (Builtin.append_ #[T_sl_api_Out, T_sl_api_Out] T_sl_api_Out #[l10.val, s13.val]).run Tryz.prog w12 = .ok (s14.val) w15 ∧
 I2 s14 (wr (n9 + (1 : Int))) w15 ∧ μ2 s14 (wr (n9 + (1 : Int))) w15 < μ2 l10 n9 w8)
 (Calls Tryz.prog fn_hollowaybook_markExits #[.int .i64 i3, .int .i64 (l10.len : Int), .int .i64 (60 : Int)] w8 fun e17 w18 => ∃ s19 : Sl, e17 = .returned (s19.val) ∧
 ∃ s20 : Sl, ∃ w21 : World, (Builtin.append_ #[T_sl_api_Out, T_sl_api_Out] T_sl_api_Out #[l10.val, s19.val]).run Tryz.prog w18 = .ok (s20.val) w21 ∧
 ∀ (b22 : Nat) (w23 : World), b22 = w21.heap.size → w23 = World.alloc w21 (.cells #[s20.val] T_sl_api_Out) →
 ∃ s24 : Sl, ∃ w25 : World, (Builtin.append_ #[T_sl_sl_api_Out, T_sl_sl_api_Out] T_sl_sl_api_Out #[out16.val, .slice (some ⟨b22, 0, none⟩) 1 1]).run Tryz.prog w23 = .ok (s24.val) w25 ∧
 I1 s24 (wr (i3 + (1 : Int))) w25 ∧ μ1 s24 (wr (i3 + (1 : Int))) w25 < μ1 out16 i3 w2))
 (K (out16.val) w2)
def hollowaybook_Book_growExits_an : An := ⟨[(3, [(3, .sl), (4, .int .i64)]), (7, [(5, .sl), (6, .int .i64)])], [], []⟩
theorem hollowaybook_Book_growExits_lift {b_1 : Nat} {w : World} {K : Value → World → Prop} (h : hollowaybook_Book_growExits_sh b_1 w K) : Calls Tryz.prog fn_hollowaybook_Book_growExits #[.pointer (some ⟨b_1, 0, none⟩)] w fun e w' => ∃ v, e = .returned v ∧ K v w' :=
   lift_calls (A := hollowaybook_Book_growExits_an) (c := bodyOf Tryz.f63) (args := [.pointer (some ⟨b_1, 0, none⟩)]) orc orc_wide Tryz.func63 (by kernel_rfl) (by kernel_rfl) (Eq.mp (by kernel_rfl : hollowaybook_Book_growExits_sh b_1 w K = wpc orc Tryz.f63.ntmps hollowaybook_Book_growExits_an (bodyOf Tryz.f63) (argl 0 [.pointer (some ⟨b_1, 0, none⟩)]) w (retQ orc Tryz.f63.results.toList K)) h)

def hollowaybook_markedTexts_sh (l_1 : Sl) (w : World) (K : Value → World → Prop) : Prop :=
 ∃ (I1 : Int → World → Prop) (μ1 : Int → World → Nat), I1 (0 : Int) w ∧ ∀ (i3 : Int) (w2 : World), I1 i3 w2 →
 brB (decide (i3 < (l_1.len : Int)))
 (∀ w4 : World, w4 = World.drew w2 →
 ∃ S5 : World → Prop, S5 w4 ∧
 ∃ a6 : Addr, l_1.ptr = some a6 ∧ 0 ≤ i3 ∧ i3 < (l_1.len : Int) ∧
 ∃ s7 : Sl, held S5 (Addr.add a6 (Int.toNat i3 * 1)) (s7.val) ∧
 ∃ a8 : Addr, l_1.ptr = some a8 ∧ 0 ≤ i3 ∧ i3 < (l_1.len : Int) ∧
 ∃ s9 : Sl, held S5 (Addr.add a8 (Int.toNat i3 * 1)) (s9.val) ∧
 Calls Tryz.prog fn_hollowaybook_markTexts #[.int .i64 i3, .int .i64 (0 : Int), .int .i64 (s9.len : Int)] w4 fun e10 w11 => ∃ s12 : Sl, e10 = .returned (s12.val) ∧
 S5 w11 ∧
 Calls Tryz.prog fn_hollowaybook_SameTexts #[s7.val, s12.val] w11 fun e13 w14 => ∃ b15 : Bool, e13 = .returned (.bool b15) ∧
 brB (!b15)
 (K (.bool false) w14)
 (I1 (wr (i3 + (1 : Int))) w14 ∧ μ1 (wr (i3 + (1 : Int))) w14 < μ1 i3 w2))
 (K (.bool true) w2)
def hollowaybook_markedTexts_an : An := ⟨[(2, [(3, .int .i64)])], [(4, (11, .st 0 (.st 1 (.st 2 (.st 3 (.st 4 (.st 5 (.st 6 (.st 7 (.st 8 (.st 9 (.ef 10 .done)))))))))), 1))], []⟩
theorem hollowaybook_markedTexts_lift {l_1 : Sl} {w : World} {K : Value → World → Prop} (h : hollowaybook_markedTexts_sh l_1 w K) : Calls Tryz.prog fn_hollowaybook_markedTexts #[l_1.val] w fun e w' => ∃ v, e = .returned v ∧ K v w' :=
   lift_calls (A := hollowaybook_markedTexts_an) (c := bodyOf Tryz.f64) (args := [l_1.val]) orc orc_wide Tryz.func64 (by kernel_rfl) (by kernel_rfl) (Eq.mp (by kernel_rfl : hollowaybook_markedTexts_sh l_1 w K = wpc orc Tryz.f64.ntmps hollowaybook_markedTexts_an (bodyOf Tryz.f64) (argl 0 [l_1.val]) w (retQ orc Tryz.f64.results.toList K)) h)

def hollowaybook_markedInts_sh (l_1 : Sl) (w : World) (K : Value → World → Prop) : Prop :=
 ∃ (I1 : Int → World → Prop) (μ1 : Int → World → Nat), I1 (0 : Int) w ∧ ∀ (i3 : Int) (w2 : World), I1 i3 w2 →
 brB (decide (i3 < (l_1.len : Int)))
 (∀ w4 : World, w4 = World.drew w2 →
 ∃ S5 : World → Prop, S5 w4 ∧
 ∃ a6 : Addr, l_1.ptr = some a6 ∧ 0 ≤ i3 ∧ i3 < (l_1.len : Int) ∧
 ∃ s7 : Sl, held S5 (Addr.add a6 (Int.toNat i3 * 1)) (s7.val) ∧
 ∃ a8 : Addr, l_1.ptr = some a8 ∧ 0 ≤ i3 ∧ i3 < (l_1.len : Int) ∧
 ∃ s9 : Sl, held S5 (Addr.add a8 (Int.toNat i3 * 1)) (s9.val) ∧
 Calls Tryz.prog fn_hollowaybook_markInts #[.int .i64 i3, .int .i64 (0 : Int), .int .i64 (s9.len : Int)] w4 fun e10 w11 => ∃ s12 : Sl, e10 = .returned (s12.val) ∧
 S5 w11 ∧
 Calls Tryz.prog fn_hollowaybook_SameInts #[s7.val, s12.val] w11 fun e13 w14 => ∃ b15 : Bool, e13 = .returned (.bool b15) ∧
 brB (!b15)
 (K (.bool false) w14)
 (I1 (wr (i3 + (1 : Int))) w14 ∧ μ1 (wr (i3 + (1 : Int))) w14 < μ1 i3 w2))
 (K (.bool true) w2)
def hollowaybook_markedInts_an : An := ⟨[(2, [(3, .int .i64)])], [(4, (11, .st 0 (.st 1 (.st 2 (.st 3 (.st 4 (.st 5 (.st 6 (.st 7 (.st 8 (.st 9 (.ef 10 .done)))))))))), 1))], []⟩
theorem hollowaybook_markedInts_lift {l_1 : Sl} {w : World} {K : Value → World → Prop} (h : hollowaybook_markedInts_sh l_1 w K) : Calls Tryz.prog fn_hollowaybook_markedInts #[l_1.val] w fun e w' => ∃ v, e = .returned v ∧ K v w' :=
   lift_calls (A := hollowaybook_markedInts_an) (c := bodyOf Tryz.f65) (args := [l_1.val]) orc orc_wide Tryz.func65 (by kernel_rfl) (by kernel_rfl) (Eq.mp (by kernel_rfl : hollowaybook_markedInts_sh l_1 w K = wpc orc Tryz.f65.ntmps hollowaybook_markedInts_an (bodyOf Tryz.f65) (argl 0 [l_1.val]) w (retQ orc Tryz.f65.results.toList K)) h)

def hollowaybook_markedWords_sh (l_1 : Sl) (w : World) (K : Value → World → Prop) : Prop :=
 ∃ (I1 : Int → World → Prop) (μ1 : Int → World → Nat), I1 (0 : Int) w ∧ ∀ (i3 : Int) (w2 : World), I1 i3 w2 →
 brB (decide (i3 < (l_1.len : Int)))
 (∀ w4 : World, w4 = World.drew w2 →
 ∃ S5 : World → Prop, S5 w4 ∧
 ∃ a6 : Addr, l_1.ptr = some a6 ∧ 0 ≤ i3 ∧ i3 < (l_1.len : Int) ∧
 ∃ s7 : Sl, held S5 (Addr.add a6 (Int.toNat i3 * 1)) (s7.val) ∧
 ∃ a8 : Addr, l_1.ptr = some a8 ∧ 0 ≤ i3 ∧ i3 < (l_1.len : Int) ∧
 ∃ s9 : Sl, held S5 (Addr.add a8 (Int.toNat i3 * 1)) (s9.val) ∧
 Calls Tryz.prog fn_hollowaybook_markWords #[.int .i64 i3, .int .i64 (0 : Int), .int .i64 (s9.len : Int)] w4 fun e10 w11 => ∃ s12 : Sl, e10 = .returned (s12.val) ∧
 S5 w11 ∧
 Calls Tryz.prog fn_hollowaybook_SameWords #[s7.val, s12.val] w11 fun e13 w14 => ∃ b15 : Bool, e13 = .returned (.bool b15) ∧
 brB (!b15)
 (K (.bool false) w14)
 (I1 (wr (i3 + (1 : Int))) w14 ∧ μ1 (wr (i3 + (1 : Int))) w14 < μ1 i3 w2))
 (K (.bool true) w2)
def hollowaybook_markedWords_an : An := ⟨[(2, [(3, .int .i64)])], [(4, (11, .st 0 (.st 1 (.st 2 (.st 3 (.st 4 (.st 5 (.st 6 (.st 7 (.st 8 (.st 9 (.ef 10 .done)))))))))), 1))], []⟩
theorem hollowaybook_markedWords_lift {l_1 : Sl} {w : World} {K : Value → World → Prop} (h : hollowaybook_markedWords_sh l_1 w K) : Calls Tryz.prog fn_hollowaybook_markedWords #[l_1.val] w fun e w' => ∃ v, e = .returned v ∧ K v w' :=
   lift_calls (A := hollowaybook_markedWords_an) (c := bodyOf Tryz.f66) (args := [l_1.val]) orc orc_wide Tryz.func66 (by kernel_rfl) (by kernel_rfl) (Eq.mp (by kernel_rfl : hollowaybook_markedWords_sh l_1 w K = wpc orc Tryz.f66.ntmps hollowaybook_markedWords_an (bodyOf Tryz.f66) (argl 0 [l_1.val]) w (retQ orc Tryz.f66.results.toList K)) h)

def hollowaybook_markedSeens_sh (l_1 : Sl) (w : World) (K : Value → World → Prop) : Prop :=
 ∃ (I1 : Int → World → Prop) (μ1 : Int → World → Nat), I1 (0 : Int) w ∧ ∀ (i3 : Int) (w2 : World), I1 i3 w2 →
 brB (decide (i3 < (l_1.len : Int)))
 (∀ w4 : World, w4 = World.drew w2 →
 ∃ S5 : World → Prop, S5 w4 ∧
 ∃ a6 : Addr, l_1.ptr = some a6 ∧ 0 ≤ i3 ∧ i3 < (l_1.len : Int) ∧
 ∃ s7 : Sl, held S5 (Addr.add a6 (Int.toNat i3 * 1)) (s7.val) ∧
 ∃ a8 : Addr, l_1.ptr = some a8 ∧ 0 ≤ i3 ∧ i3 < (l_1.len : Int) ∧
 ∃ s9 : Sl, held S5 (Addr.add a8 (Int.toNat i3 * 1)) (s9.val) ∧
 Calls Tryz.prog fn_hollowaybook_markSeens #[.int .i64 i3, .int .i64 (0 : Int), .int .i64 (s9.len : Int)] w4 fun e10 w11 => ∃ s12 : Sl, e10 = .returned (s12.val) ∧
 S5 w11 ∧
 Calls Tryz.prog fn_hollowaybook_SameSeens #[s7.val, s12.val] w11 fun e13 w14 => ∃ b15 : Bool, e13 = .returned (.bool b15) ∧
 brB (!b15)
 (K (.bool false) w14)
 (I1 (wr (i3 + (1 : Int))) w14 ∧ μ1 (wr (i3 + (1 : Int))) w14 < μ1 i3 w2))
 (K (.bool true) w2)
def hollowaybook_markedSeens_an : An := ⟨[(2, [(3, .int .i64)])], [(4, (11, .st 0 (.st 1 (.st 2 (.st 3 (.st 4 (.st 5 (.st 6 (.st 7 (.st 8 (.st 9 (.ef 10 .done)))))))))), 1))], []⟩
theorem hollowaybook_markedSeens_lift {l_1 : Sl} {w : World} {K : Value → World → Prop} (h : hollowaybook_markedSeens_sh l_1 w K) : Calls Tryz.prog fn_hollowaybook_markedSeens #[l_1.val] w fun e w' => ∃ v, e = .returned v ∧ K v w' :=
   lift_calls (A := hollowaybook_markedSeens_an) (c := bodyOf Tryz.f67) (args := [l_1.val]) orc orc_wide Tryz.func67 (by kernel_rfl) (by kernel_rfl) (Eq.mp (by kernel_rfl : hollowaybook_markedSeens_sh l_1 w K = wpc orc Tryz.f67.ntmps hollowaybook_markedSeens_an (bodyOf Tryz.f67) (argl 0 [l_1.val]) w (retQ orc Tryz.f67.results.toList K)) h)

def hollowaybook_markedCodes_sh (l_1 : Sl) (w : World) (K : Value → World → Prop) : Prop :=
 ∃ (I1 : Int → World → Prop) (μ1 : Int → World → Nat), I1 (0 : Int) w ∧ ∀ (i3 : Int) (w2 : World), I1 i3 w2 →
 brB (decide (i3 < (l_1.len : Int)))
 (∀ w4 : World, w4 = World.drew w2 →
 ∃ S5 : World → Prop, S5 w4 ∧
 ∃ a6 : Addr, l_1.ptr = some a6 ∧ 0 ≤ i3 ∧ i3 < (l_1.len : Int) ∧
 ∃ s7 : Sl, held S5 (Addr.add a6 (Int.toNat i3 * 1)) (s7.val) ∧
 ∃ a8 : Addr, l_1.ptr = some a8 ∧ 0 ≤ i3 ∧ i3 < (l_1.len : Int) ∧
 ∃ s9 : Sl, held S5 (Addr.add a8 (Int.toNat i3 * 1)) (s9.val) ∧
 Calls Tryz.prog fn_hollowaybook_markCodes #[.int .i64 i3, .int .i64 (0 : Int), .int .i64 (s9.len : Int)] w4 fun e10 w11 => ∃ s12 : Sl, e10 = .returned (s12.val) ∧
 S5 w11 ∧
 Calls Tryz.prog fn_hollowaybook_SameCodes #[s7.val, s12.val] w11 fun e13 w14 => ∃ b15 : Bool, e13 = .returned (.bool b15) ∧
 brB (!b15)
 (K (.bool false) w14)
 (I1 (wr (i3 + (1 : Int))) w14 ∧ μ1 (wr (i3 + (1 : Int))) w14 < μ1 i3 w2))
 (K (.bool true) w2)
def hollowaybook_markedCodes_an : An := ⟨[(2, [(3, .int .i64)])], [(4, (11, .st 0 (.st 1 (.st 2 (.st 3 (.st 4 (.st 5 (.st 6 (.st 7 (.st 8 (.st 9 (.ef 10 .done)))))))))), 1))], []⟩
theorem hollowaybook_markedCodes_lift {l_1 : Sl} {w : World} {K : Value → World → Prop} (h : hollowaybook_markedCodes_sh l_1 w K) : Calls Tryz.prog fn_hollowaybook_markedCodes #[l_1.val] w fun e w' => ∃ v, e = .returned v ∧ K v w' :=
   lift_calls (A := hollowaybook_markedCodes_an) (c := bodyOf Tryz.f68) (args := [l_1.val]) orc orc_wide Tryz.func68 (by kernel_rfl) (by kernel_rfl) (Eq.mp (by kernel_rfl : hollowaybook_markedCodes_sh l_1 w K = wpc orc Tryz.f68.ntmps hollowaybook_markedCodes_an (bodyOf Tryz.f68) (argl 0 [l_1.val]) w (retQ orc Tryz.f68.results.toList K)) h)

def hollowaybook_markedExits_sh (l_1 : Sl) (w : World) (K : Value → World → Prop) : Prop :=
 ∃ (I1 : Int → World → Prop) (μ1 : Int → World → Nat), I1 (0 : Int) w ∧ ∀ (i3 : Int) (w2 : World), I1 i3 w2 →
 brB (decide (i3 < (l_1.len : Int)))
 (∀ w4 : World, w4 = World.drew w2 →
 ∃ S5 : World → Prop, S5 w4 ∧
 ∃ a6 : Addr, l_1.ptr = some a6 ∧ 0 ≤ i3 ∧ i3 < (l_1.len : Int) ∧
 ∃ s7 : Sl, held S5 (Addr.add a6 (Int.toNat i3 * 1)) (s7.val) ∧
 ∃ a8 : Addr, l_1.ptr = some a8 ∧ 0 ≤ i3 ∧ i3 < (l_1.len : Int) ∧
 ∃ s9 : Sl, held S5 (Addr.add a8 (Int.toNat i3 * 1)) (s9.val) ∧
 Calls Tryz.prog fn_hollowaybook_markExits #[.int .i64 i3, .int .i64 (0 : Int), .int .i64 (s9.len : Int)] w4 fun e10 w11 => ∃ s12 : Sl, e10 = .returned (s12.val) ∧
 S5 w11 ∧
 Calls Tryz.prog fn_hollowaybook_SameExits #[s7.val, s12.val] w11 fun e13 w14 => ∃ b15 : Bool, e13 = .returned (.bool b15) ∧
 brB (!b15)
 (K (.bool false) w14)
 (I1 (wr (i3 + (1 : Int))) w14 ∧ μ1 (wr (i3 + (1 : Int))) w14 < μ1 i3 w2))
 (K (.bool true) w2)
def hollowaybook_markedExits_an : An := ⟨[(2, [(3, .int .i64)])], [(4, (11, .st 0 (.st 1 (.st 2 (.st 3 (.st 4 (.st 5 (.st 6 (.st 7 (.st 8 (.st 9 (.ef 10 .done)))))))))), 1))], []⟩
theorem hollowaybook_markedExits_lift {l_1 : Sl} {w : World} {K : Value → World → Prop} (h : hollowaybook_markedExits_sh l_1 w K) : Calls Tryz.prog fn_hollowaybook_markedExits #[l_1.val] w fun e w' => ∃ v, e = .returned v ∧ K v w' :=
   lift_calls (A := hollowaybook_markedExits_an) (c := bodyOf Tryz.f69) (args := [l_1.val]) orc orc_wide Tryz.func69 (by kernel_rfl) (by kernel_rfl) (Eq.mp (by kernel_rfl : hollowaybook_markedExits_sh l_1 w K = wpc orc Tryz.f69.ntmps hollowaybook_markedExits_an (bodyOf Tryz.f69) (argl 0 [l_1.val]) w (retQ orc Tryz.f69.results.toList K)) h)

def hollowaybook_copySeens_sh (l_1 : Sl) (w : World) (K : Value → World → Prop) : Prop :=
 ∃ s2 : Sl, ∃ w3 : World, (Builtin.append_ #[T_sl_api_Seen, T_sl_api_Seen] T_sl_api_Seen #[.slice none 0 0, l_1.val]).run Tryz.prog w = .ok (s2.val) w3 ∧
 K (s2.val) w3
def hollowaybook_copySeens_an : An := ⟨[], [], []⟩
theorem hollowaybook_copySeens_lift {l_1 : Sl} {w : World} {K : Value → World → Prop} (h : hollowaybook_copySeens_sh l_1 w K) : Calls Tryz.prog fn_hollowaybook_copySeens #[l_1.val] w fun e w' => ∃ v, e = .returned v ∧ K v w' :=
   lift_calls (A := hollowaybook_copySeens_an) (c := bodyOf Tryz.f84) (args := [l_1.val]) orc orc_wide Tryz.func84 (by kernel_rfl) (by kernel_rfl) (Eq.mp (by kernel_rfl : hollowaybook_copySeens_sh l_1 w K = wpc orc Tryz.f84.ntmps hollowaybook_copySeens_an (bodyOf Tryz.f84) (argl 0 [l_1.val]) w (retQ orc Tryz.f84.results.toList K)) h)

def hollowaybook_copyInts_sh (l_1 : Sl) (w : World) (K : Value → World → Prop) : Prop :=
 ∃ s2 : Sl, ∃ w3 : World, (Builtin.append_ #[T_sl_int, T_sl_int] T_sl_int #[.slice none 0 0, l_1.val]).run Tryz.prog w = .ok (s2.val) w3 ∧
 K (s2.val) w3
def hollowaybook_copyInts_an : An := ⟨[], [], []⟩
theorem hollowaybook_copyInts_lift {l_1 : Sl} {w : World} {K : Value → World → Prop} (h : hollowaybook_copyInts_sh l_1 w K) : Calls Tryz.prog fn_hollowaybook_copyInts #[l_1.val] w fun e w' => ∃ v, e = .returned v ∧ K v w' :=
   lift_calls (A := hollowaybook_copyInts_an) (c := bodyOf Tryz.f88) (args := [l_1.val]) orc orc_wide Tryz.func88 (by kernel_rfl) (by kernel_rfl) (Eq.mp (by kernel_rfl : hollowaybook_copyInts_sh l_1 w K = wpc orc Tryz.f88.ntmps hollowaybook_copyInts_an (bodyOf Tryz.f88) (argl 0 [l_1.val]) w (retQ orc Tryz.f88.results.toList K)) h)

def hollowaybook_markInts_sh (i_1 : Int) (from_2 : Int) (n_3 : Int) (w : World) (K : Value → World → Prop) : Prop :=
 ∃ (I1 : Sl → Int → World → Prop) (μ1 : Sl → Int → World → Nat), I1 (⟨none, 0, 0⟩ : Sl) from_2 w ∧ ∀ (out6 : Sl) (k5 : Int) (w4 : World), I1 out6 k5 w4 →
 brB (decide (k5 < (wr (from_2 + n_3))))
 (∀ (b7 : Nat) (w8 : World), b7 = w4.heap.size → w8 = World.alloc w4 (.cells #[.int .i64 (wr ((wr ((wr ((-1000000 : Int) * i_1)) - k5)) - (7 : Int)))] T_int) →
 ∃ s9 : Sl, ∃ w10 : World, (Builtin.append_ #[T_sl_int, T_sl_int] T_sl_int #[out6.val, .slice (some ⟨b7, 0, none⟩) 1 1]).run Tryz.prog w8 = .ok (s9.val) w10 ∧
 I1 s9 (wr (k5 + (1 : Int))) w10 ∧ μ1 s9 (wr (k5 + (1 : Int))) w10 < μ1 out6 k5 w4)
 (K (out6.val) w4)
def hollowaybook_markInts_an : An := ⟨[(3, [(7, .sl), (8, .int .i64)])], [], []⟩
theorem hollowaybook_markInts_lift {i_1 : Int} {from_2 : Int} {n_3 : Int} {w : World} {K : Value → World → Prop} (h : hollowaybook_markInts_sh i_1 from_2 n_3 w K) : Calls Tryz.prog fn_hollowaybook_markInts #[.int .i64 i_1, .int .i64 from_2, .int .i64 n_3] w fun e w' => ∃ v, e = .returned v ∧ K v w' :=
   lift_calls (A := hollowaybook_markInts_an) (c := bodyOf Tryz.f96) (args := [.int .i64 i_1, .int .i64 from_2, .int .i64 n_3]) orc orc_wide Tryz.func96 (by kernel_rfl) (by kernel_rfl) (Eq.mp (by kernel_rfl : hollowaybook_markInts_sh i_1 from_2 n_3 w K = wpc orc Tryz.f96.ntmps hollowaybook_markInts_an (bodyOf Tryz.f96) (argl 0 [.int .i64 i_1, .int .i64 from_2, .int .i64 n_3]) w (retQ orc Tryz.f96.results.toList K)) h)

def hollowaybook_markSeens_sh (i_1 : Int) (from_2 : Int) (n_3 : Int) (w : World) (K : Value → World → Prop) : Prop :=
 ∃ (I1 : Sl → Int → World → Prop) (μ1 : Sl → Int → World → Nat), I1 (⟨none, 0, 0⟩ : Sl) from_2 w ∧ ∀ (out6 : Sl) (k5 : Int) (w4 : World), I1 out6 k5 w4 →
 brB (decide (k5 < (wr (from_2 + n_3))))
 (∀ (b7 : Nat) (w8 : World), b7 = w4.heap.size → w8 = World.alloc w4 (.cells #[.int .i64 (wr ((wr ((wr ((-1000 : Int) * i_1)) - k5)) - (1 : Int))), .int .i64 (0 : Int), .int .i64 (0 : Int), .int .i64 (0 : Int)] T_api_Seen) →
 ∃ s9 : Sl, ∃ w10 : World, (Builtin.append_ #[T_sl_api_Seen, T_sl_api_Seen] T_sl_api_Seen #[out6.val, .slice (some ⟨b7, 0, none⟩) 1 1]).run Tryz.prog w8 = .ok (s9.val) w10 ∧
 I1 s9 (wr (k5 + (1 : Int))) w10 ∧ μ1 s9 (wr (k5 + (1 : Int))) w10 < μ1 out6 k5 w4)
 (K (out6.val) w4)
def hollowaybook_markSeens_an : An := ⟨[(3, [(7, .sl), (8, .int .i64)])], [], []⟩
theorem hollowaybook_markSeens_lift {i_1 : Int} {from_2 : Int} {n_3 : Int} {w : World} {K : Value → World → Prop} (h : hollowaybook_markSeens_sh i_1 from_2 n_3 w K) : Calls Tryz.prog fn_hollowaybook_markSeens #[.int .i64 i_1, .int .i64 from_2, .int .i64 n_3] w fun e w' => ∃ v, e = .returned v ∧ K v w' :=
   lift_calls (A := hollowaybook_markSeens_an) (c := bodyOf Tryz.f98) (args := [.int .i64 i_1, .int .i64 from_2, .int .i64 n_3]) orc orc_wide Tryz.func98 (by kernel_rfl) (by kernel_rfl) (Eq.mp (by kernel_rfl : hollowaybook_markSeens_sh i_1 from_2 n_3 w K = wpc orc Tryz.f98.ntmps hollowaybook_markSeens_an (bodyOf Tryz.f98) (argl 0 [.int .i64 i_1, .int .i64 from_2, .int .i64 n_3]) w (retQ orc Tryz.f98.results.toList K)) h)

end Go.Proofs.YtkjpmkopnkkbmaaGreatDoor
