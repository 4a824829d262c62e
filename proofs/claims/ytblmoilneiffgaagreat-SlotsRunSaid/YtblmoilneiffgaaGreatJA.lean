/- The lifted texts of the package hollowaybook. -/
import Derived.Test.YtblmoilneiffgaaGreatJ4

/- Functions of Hollowaybook, read without their frames; that each is enough. Printed by a program of mine (wip/lift/gen.py). -/
set_option maxRecDepth 100000
namespace Go.Proofs.YtblmoilneiffgaaGreat
open Go.RowKit

def hollowaybook_LentTrace_sh (t1 : Int) (t2 : Int) (t3 : Int) (t4 : Int) (t5 : Int) (t6 : Sl) (t7 : Sl) (t8 : Int) (t9 : Sl) (w : World) (K : Value → World → Prop) : Prop :=
 ∀ (b10 : Nat) (w11 : World), b10 = w.heap.size → w11 = World.alloc w (.cells #[.int .i64 t1, .int .i64 t2, .int .i64 t3, .int .i64 t4, .int .i64 t5, t6.val, t7.val, .int .i64 t8, t9.val] T_api_Trace) →
 ∀ (b12 : Nat) (w13 : World), b12 = w11.heap.size → w13 = World.alloc w11 (.cells #[.int .i64 (0 : Int), .int .i64 (0 : Int), .int .i64 (0 : Int), .int .i64 (0 : Int), .int .i64 (0 : Int), .slice none 0 0, .slice none 0 0, .int .i64 (0 : Int), .slice none 0 0] T_api_Trace) →
 ∀ w14 : World, w14 = World.drew w13 →
 ∃ S15 : World → Prop, S15 w14 ∧
 ∃ s16 : Sl, held S15 ⟨b10, 5, none⟩ (s16.val) ∧
 ∃ s17 : Sl, held S15 ⟨b10, 6, none⟩ (s17.val) ∧
 ∃ s18 : Sl, held S15 ⟨b10, 8, none⟩ (s18.val) ∧
 Calls Tryz.prog fn_hollowaybook_LentCodes #[s16.val] w14 fun e19 w20 => ∃ s21 : Sl, e19 = .returned (s21.val) ∧
 S15 w20 ∧
 Calls Tryz.prog fn_hollowaybook_LentExits #[s17.val] w20 fun e22 w23 => ∃ s24 : Sl, e22 = .returned (s24.val) ∧
 S15 w23 ∧
 Calls Tryz.prog fn_hollowaybook_LentInts #[s18.val] w23 fun e25 w26 => ∃ s27 : Sl, e25 = .returned (s27.val) ∧
 S15 w26 ∧
 wrOk w26 ⟨b10, 5, none⟩ 1 ∧ ∀ w28 : World, w28 = stW w26 ⟨b10, 5, none⟩ 0 [s21.val] →
 wrOk w28 ⟨b10, 6, none⟩ 1 ∧ ∀ w29 : World, w29 = stW w28 ⟨b10, 6, none⟩ 0 [s24.val] →
 wrOk w29 ⟨b10, 8, none⟩ 1 ∧ ∀ w30 : World, w30 = stW w29 ⟨b10, 8, none⟩ 0 [s27.val] →
 ∃ n31 n32 : Int, ∃ n33 n34 n35 : Int, ∃ s36 s37 : Sl, ∃ n38 : Int, ∃ s39 : Sl, w30.cell? ⟨b10, 0, none⟩ = some (.int .i64 n31) ∧ w30.cell? ⟨b10, 1, none⟩ = some (.int .i64 n32) ∧ w30.cell? ⟨b10, 2, none⟩ = some (.int .i64 n33) ∧ w30.cell? ⟨b10, 3, none⟩ = some (.int .i64 n34) ∧ w30.cell? ⟨b10, 4, none⟩ = some (.int .i64 n35) ∧ w30.cell? ⟨b10, 5, none⟩ = some (s36.val) ∧ w30.cell? ⟨b10, 6, none⟩ = some (s37.val) ∧ w30.cell? ⟨b10, 7, none⟩ = some (.int .i64 n38) ∧ w30.cell? ⟨b10, 8, none⟩ = some (s39.val) ∧
 wrOk w30 ⟨b12, 0, none⟩ 9 ∧ ∀ w40 : World, w40 = stW w30 ⟨b12, 0, none⟩ 0 [.int .i64 n31, .int .i64 n32, .int .i64 n33, .int .i64 n34, .int .i64 n35, s36.val, s37.val, .int .i64 n38, s39.val] →
 ∃ r41 r42 : Int, ∃ r43 r44 r45 : Int, ∃ r46 r47 : Sl, ∃ r48 : Int, ∃ r49 : Sl, w40.cell? ⟨b12, 0, none⟩ = some (.int .i64 r41) ∧ w40.cell? ⟨b12, 1, none⟩ = some (.int .i64 r42) ∧ w40.cell? ⟨b12, 2, none⟩ = some (.int .i64 r43) ∧ w40.cell? ⟨b12, 3, none⟩ = some (.int .i64 r44) ∧ w40.cell? ⟨b12, 4, none⟩ = some (.int .i64 r45) ∧ w40.cell? ⟨b12, 5, none⟩ = some (r46.val) ∧ w40.cell? ⟨b12, 6, none⟩ = some (r47.val) ∧ w40.cell? ⟨b12, 7, none⟩ = some (.int .i64 r48) ∧ w40.cell? ⟨b12, 8, none⟩ = some (r49.val) ∧
 K (.agg #[.int .i64 r41, .int .i64 r42, .int .i64 r43, .int .i64 r44, .int .i64 r45, r46.val, r47.val, .int .i64 r48, r49.val]) w40
def hollowaybook_LentTrace_an : An := ⟨[], [(1, (10, .st 0 (.st 1 (.st 3 (.st 4 (.st 6 (.st 7 (.ef 2 (.st 9 (.ef 5 (.ef 8 .done))))))))), 1))], []⟩
theorem hollowaybook_LentTrace_lift {t1 : Int} {t2 : Int} {t3 : Int} {t4 : Int} {t5 : Int} {t6 : Sl} {t7 : Sl} {t8 : Int} {t9 : Sl} {w : World} {K : Value → World → Prop} (h : hollowaybook_LentTrace_sh t1 t2 t3 t4 t5 t6 t7 t8 t9 w K) : Calls Tryz.prog fn_hollowaybook_LentTrace #[.agg #[.int .i64 t1, .int .i64 t2, .int .i64 t3, .int .i64 t4, .int .i64 t5, t6.val, t7.val, .int .i64 t8, t9.val]] w fun e w' => ∃ v, e = .returned v ∧ K v w' :=
   lift_calls (A := hollowaybook_LentTrace_an) (c := bodyOf Tryz.f10) (args := [.agg #[.int .i64 t1, .int .i64 t2, .int .i64 t3, .int .i64 t4, .int .i64 t5, t6.val, t7.val, .int .i64 t8, t9.val]]) orc orc_wide Tryz.func10 (by kernel_rfl) (by kernel_rfl) (Eq.mp (by kernel_rfl : hollowaybook_LentTrace_sh t1 t2 t3 t4 t5 t6 t7 t8 t9 w K = wpc orc Tryz.f10.ntmps hollowaybook_LentTrace_an (bodyOf Tryz.f10) (argl 0 [.agg #[.int .i64 t1, .int .i64 t2, .int .i64 t3, .int .i64 t4, .int .i64 t5, t6.val, t7.val, .int .i64 t8, t9.val]]) w (retQ orc Tryz.f10.results.toList K)) h)

def hollowaybook_LentState_sh (s1 : Int) (s2 : Int) (s3 : Sl) (s4 : Sl) (s5 : Sl) (s6 : ByteArray) (s7 : ByteArray) (s8 : Int) (s9 : Int) (s10 : Int) (w : World) (K : Value → World → Prop) : Prop :=
 ∀ (b11 : Nat) (w12 : World), b11 = w.heap.size → w12 = World.alloc w (.cells #[.int .i64 s1, .int .i64 s2, s3.val, s4.val, s5.val, .string s6, .string s7, .int .i64 s8, .int .i64 s9, .int .i64 s10] T_api_State) →
 ∀ (b13 : Nat) (w14 : World), b13 = w12.heap.size → w14 = World.alloc w12 (.cells #[.int .i64 (0 : Int), .int .i64 (0 : Int), .slice none 0 0, .slice none 0 0, .slice none 0 0, .string (bs []), .string (bs []), .int .i64 (0 : Int), .int .i64 (0 : Int), .int .i64 (0 : Int)] T_api_State) →
 ∀ w15 : World, w15 = World.drew w14 →
 ∃ S16 : World → Prop, S16 w15 ∧
 ∃ s17 : Sl, held S16 ⟨b11, 2, none⟩ (s17.val) ∧
 ∃ s18 : Sl, held S16 ⟨b11, 3, none⟩ (s18.val) ∧
 ∃ s19 : Sl, held S16 ⟨b11, 4, none⟩ (s19.val) ∧
 Calls Tryz.prog fn_hollowaybook_LentInts #[s17.val] w15 fun e20 w21 => ∃ s22 : Sl, e20 = .returned (s22.val) ∧
 S16 w21 ∧
 Calls Tryz.prog fn_hollowaybook_LentInts #[s18.val] w21 fun e23 w24 => ∃ s25 : Sl, e23 = .returned (s25.val) ∧
 S16 w24 ∧
 Calls Tryz.prog fn_hollowaybook_LentInts #[s19.val] w24 fun e26 w27 => ∃ s28 : Sl, e26 = .returned (s28.val) ∧
 S16 w27 ∧
 wrOk w27 ⟨b11, 2, none⟩ 1 ∧ ∀ w29 : World, w29 = stW w27 ⟨b11, 2, none⟩ 0 [s22.val] →
 wrOk w29 ⟨b11, 3, none⟩ 1 ∧ ∀ w30 : World, w30 = stW w29 ⟨b11, 3, none⟩ 0 [s25.val] →
 wrOk w30 ⟨b11, 4, none⟩ 1 ∧ ∀ w31 : World, w31 = stW w30 ⟨b11, 4, none⟩ 0 [s28.val] →
 ∃ n32 n33 : Int, ∃ s34 s35 s36 : Sl, ∃ t37 t38 : ByteArray, ∃ n39 n40 n41 : Int, w31.cell? ⟨b11, 0, none⟩ = some (.int .i64 n32) ∧ w31.cell? ⟨b11, 1, none⟩ = some (.int .i64 n33) ∧ w31.cell? ⟨b11, 2, none⟩ = some (s34.val) ∧ w31.cell? ⟨b11, 3, none⟩ = some (s35.val) ∧ w31.cell? ⟨b11, 4, none⟩ = some (s36.val) ∧ w31.cell? ⟨b11, 5, none⟩ = some (.string t37) ∧ w31.cell? ⟨b11, 6, none⟩ = some (.string t38) ∧ w31.cell? ⟨b11, 7, none⟩ = some (.int .i64 n39) ∧ w31.cell? ⟨b11, 8, none⟩ = some (.int .i64 n40) ∧ w31.cell? ⟨b11, 9, none⟩ = some (.int .i64 n41) ∧
 wrOk w31 ⟨b13, 0, none⟩ 10 ∧ ∀ w42 : World, w42 = stW w31 ⟨b13, 0, none⟩ 0 [.int .i64 n32, .int .i64 n33, s34.val, s35.val, s36.val, .string t37, .string t38, .int .i64 n39, .int .i64 n40, .int .i64 n41] →
 ∃ r43 r44 : Int, ∃ r45 r46 r47 : Sl, ∃ r48 r49 : ByteArray, ∃ r50 r51 r52 : Int, w42.cell? ⟨b13, 0, none⟩ = some (.int .i64 r43) ∧ w42.cell? ⟨b13, 1, none⟩ = some (.int .i64 r44) ∧ w42.cell? ⟨b13, 2, none⟩ = some (r45.val) ∧ w42.cell? ⟨b13, 3, none⟩ = some (r46.val) ∧ w42.cell? ⟨b13, 4, none⟩ = some (r47.val) ∧ w42.cell? ⟨b13, 5, none⟩ = some (.string r48) ∧ w42.cell? ⟨b13, 6, none⟩ = some (.string r49) ∧ w42.cell? ⟨b13, 7, none⟩ = some (.int .i64 r50) ∧ w42.cell? ⟨b13, 8, none⟩ = some (.int .i64 r51) ∧ w42.cell? ⟨b13, 9, none⟩ = some (.int .i64 r52) ∧
 K (.agg #[.int .i64 r43, .int .i64 r44, r45.val, r46.val, r47.val, .string r48, .string r49, .int .i64 r50, .int .i64 r51, .int .i64 r52]) w42
def hollowaybook_LentState_an : An := ⟨[], [(1, (10, .st 0 (.st 1 (.st 3 (.st 4 (.st 6 (.st 7 (.ef 2 (.st 9 (.ef 5 (.ef 8 .done))))))))), 1))], []⟩
theorem hollowaybook_LentState_lift {s1 : Int} {s2 : Int} {s3 : Sl} {s4 : Sl} {s5 : Sl} {s6 : ByteArray} {s7 : ByteArray} {s8 : Int} {s9 : Int} {s10 : Int} {w : World} {K : Value → World → Prop} (h : hollowaybook_LentState_sh s1 s2 s3 s4 s5 s6 s7 s8 s9 s10 w K) : Calls Tryz.prog fn_hollowaybook_LentState #[.agg #[.int .i64 s1, .int .i64 s2, s3.val, s4.val, s5.val, .string s6, .string s7, .int .i64 s8, .int .i64 s9, .int .i64 s10]] w fun e w' => ∃ v, e = .returned v ∧ K v w' :=
   lift_calls (A := hollowaybook_LentState_an) (c := bodyOf Tryz.f11) (args := [.agg #[.int .i64 s1, .int .i64 s2, s3.val, s4.val, s5.val, .string s6, .string s7, .int .i64 s8, .int .i64 s9, .int .i64 s10]]) orc orc_wide Tryz.func11 (by kernel_rfl) (by kernel_rfl) (Eq.mp (by kernel_rfl : hollowaybook_LentState_sh s1 s2 s3 s4 s5 s6 s7 s8 s9 s10 w K = wpc orc Tryz.f11.ntmps hollowaybook_LentState_an (bodyOf Tryz.f11) (argl 0 [.agg #[.int .i64 s1, .int .i64 s2, s3.val, s4.val, s5.val, .string s6, .string s7, .int .i64 s8, .int .i64 s9, .int .i64 s10]]) w (retQ orc Tryz.f11.results.toList K)) h)

def hollowaybook_LentInts_sh (l_1 : Sl) (w : World) (K : Value → World → Prop) : Prop :=
 Calls Tryz.prog fn_hollowaybook_copyInts #[l_1.val] w fun e2 w3 => ∃ s4 : Sl, e2 = .returned (s4.val) ∧
 ∀ (b5 : Nat) (w6 : World), b5 = w3.heap.size → w6 = World.alloc w3 (.cells #[.int .i64 (-77 : Int)] T_int) →
 ∃ s7 : Sl, ∃ w8 : World, (Builtin.append_ #[T_sl_int, T_sl_int] T_sl_int #[s4.val, .slice (some ⟨b5, 0, none⟩) 1 1]).run Tryz.prog w6 = .ok (s7.val) w8 ∧
 0 ≤ (l_1.len : Int) ∧ (l_1.len : Int) ≤ (s7.cap : Int) ∧ ∀ s9 : Sl, s9 = Sl.sub s7.ptr s7.cap 0 (Int.toNat (l_1.len : Int)) 1 →
 K (s9.val) w8
def hollowaybook_LentInts_an : An := ⟨[], [], []⟩
theorem hollowaybook_LentInts_lift {l_1 : Sl} {w : World} {K : Value → World → Prop} (h : hollowaybook_LentInts_sh l_1 w K) : Calls Tryz.prog fn_hollowaybook_LentInts #[l_1.val] w fun e w' => ∃ v, e = .returned v ∧ K v w' :=
   lift_calls (A := hollowaybook_LentInts_an) (c := bodyOf Tryz.f12) (args := [l_1.val]) orc orc_wide Tryz.func12 (by kernel_rfl) (by kernel_rfl) (Eq.mp (by kernel_rfl : hollowaybook_LentInts_sh l_1 w K = wpc orc Tryz.f12.ntmps hollowaybook_LentInts_an (bodyOf Tryz.f12) (argl 0 [l_1.val]) w (retQ orc Tryz.f12.results.toList K)) h)

def hollowaybook_Book_State_sh (b_1 : Nat) (s2 : Int) (s3 : Int) (s4 : Sl) (s5 : Sl) (s6 : Sl) (s7 : ByteArray) (s8 : ByteArray) (s9 : Int) (s10 : Int) (s11 : Int) (w : World) (K : Value → World → Prop) : Prop :=
 ∀ (b12 : Nat) (w13 : World), b12 = w.heap.size → w13 = World.alloc w (.cells #[.int .i64 s2, .int .i64 s3, s4.val, s5.val, s6.val, .string s7, .string s8, .int .i64 s9, .int .i64 s10, .int .i64 s11] T_api_State) →
 ∃ s14 : Sl, w13.cell? ⟨b12, 2, none⟩ = some (s14.val) ∧
 Calls Tryz.prog fn_hollowaybook_Book_Ints #[.pointer (some ⟨b_1, 0, none⟩), s14.val] w13 fun e15 w16 => e15 = .returned (.tuple #[]) ∧
 ∃ s17 : Sl, w16.cell? ⟨b12, 3, none⟩ = some (s17.val) ∧
 Calls Tryz.prog fn_hollowaybook_Book_Ints #[.pointer (some ⟨b_1, 0, none⟩), s17.val] w16 fun e18 w19 => e18 = .returned (.tuple #[]) ∧
 ∃ s20 : Sl, w19.cell? ⟨b12, 4, none⟩ = some (s20.val) ∧
 Calls Tryz.prog fn_hollowaybook_Book_Ints #[.pointer (some ⟨b_1, 0, none⟩), s20.val] w19 fun e21 w22 => e21 = .returned (.tuple #[]) ∧
 K (.tuple #[]) w22
def hollowaybook_Book_State_an : An := ⟨[], [], []⟩
theorem hollowaybook_Book_State_lift {b_1 : Nat} {s2 : Int} {s3 : Int} {s4 : Sl} {s5 : Sl} {s6 : Sl} {s7 : ByteArray} {s8 : ByteArray} {s9 : Int} {s10 : Int} {s11 : Int} {w : World} {K : Value → World → Prop} (h : hollowaybook_Book_State_sh b_1 s2 s3 s4 s5 s6 s7 s8 s9 s10 s11 w K) : Calls Tryz.prog fn_hollowaybook_Book_State #[.pointer (some ⟨b_1, 0, none⟩), .agg #[.int .i64 s2, .int .i64 s3, s4.val, s5.val, s6.val, .string s7, .string s8, .int .i64 s9, .int .i64 s10, .int .i64 s11]] w fun e w' => ∃ v, e = .returned v ∧ K v w' :=
   lift_calls (A := hollowaybook_Book_State_an) (c := bodyOf Tryz.f16) (args := [.pointer (some ⟨b_1, 0, none⟩), .agg #[.int .i64 s2, .int .i64 s3, s4.val, s5.val, s6.val, .string s7, .string s8, .int .i64 s9, .int .i64 s10, .int .i64 s11]]) orc orc_wide Tryz.func16 (by kernel_rfl) (by kernel_rfl) (Eq.mp (by kernel_rfl : hollowaybook_Book_State_sh b_1 s2 s3 s4 s5 s6 s7 s8 s9 s10 s11 w K = wpc orc Tryz.f16.ntmps hollowaybook_Book_State_an (bodyOf Tryz.f16) (argl 0 [.pointer (some ⟨b_1, 0, none⟩), .agg #[.int .i64 s2, .int .i64 s3, s4.val, s5.val, s6.val, .string s7, .string s8, .int .i64 s9, .int .i64 s10, .int .i64 s11]]) w (retQ orc Tryz.f16.results.toList K)) h)

def hollowaybook_SameState_sh (a1 : Int) (a2 : Int) (a3 : Sl) (a4 : Sl) (a5 : Sl) (a6 : ByteArray) (a7 : ByteArray) (a8 : Int) (a9 : Int) (a10 : Int) (b11 : Int) (b12 : Int) (b13 : Sl) (b14 : Sl) (b15 : Sl) (b16 : ByteArray) (b17 : ByteArray) (b18 : Int) (b19 : Int) (b20 : Int) (w : World) (K : Value → World → Prop) : Prop :=
 ∀ (b21 : Nat) (w22 : World), b21 = w.heap.size → w22 = World.alloc w (.cells #[.int .i64 a1, .int .i64 a2, a3.val, a4.val, a5.val, .string a6, .string a7, .int .i64 a8, .int .i64 a9, .int .i64 a10] T_api_State) →
 ∀ (b23 : Nat) (w24 : World), b23 = w22.heap.size → w24 = World.alloc w22 (.cells #[.int .i64 b11, .int .i64 b12, b13.val, b14.val, b15.val, .string b16, .string b17, .int .i64 b18, .int .i64 b19, .int .i64 b20] T_api_State) →
 ∃ n25 : Int, w24.cell? ⟨b21, 0, none⟩ = some (.int .i64 n25) ∧
 ∃ n26 : Int, w24.cell? ⟨b23, 0, none⟩ = some (.int .i64 n26) ∧
 brB (n25 == n26)
 (∃ n27 : Int, w24.cell? ⟨b21, 1, none⟩ = some (.int .i64 n27) ∧
 ∃ n28 : Int, w24.cell? ⟨b23, 1, none⟩ = some (.int .i64 n28) ∧
 brB (n27 == n28)
 (∃ s29 : Sl, w24.cell? ⟨b21, 2, none⟩ = some (s29.val) ∧
 ∃ s30 : Sl, w24.cell? ⟨b23, 2, none⟩ = some (s30.val) ∧
 Calls Tryz.prog fn_hollowaybook_SameInts #[s29.val, s30.val] w24 fun e31 w32 => ∃ b33 : Bool, e31 = .returned (.bool b33) ∧
 brB b33
 (∃ s34 : Sl, w32.cell? ⟨b21, 3, none⟩ = some (s34.val) ∧
 ∃ s35 : Sl, w32.cell? ⟨b23, 3, none⟩ = some (s35.val) ∧
 Calls Tryz.prog fn_hollowaybook_SameInts #[s34.val, s35.val] w32 fun e36 w37 => ∃ b38 : Bool, e36 = .returned (.bool b38) ∧
 brB b38
 (∃ s39 : Sl, w37.cell? ⟨b21, 4, none⟩ = some (s39.val) ∧
 ∃ s40 : Sl, w37.cell? ⟨b23, 4, none⟩ = some (s40.val) ∧
 Calls Tryz.prog fn_hollowaybook_SameInts #[s39.val, s40.val] w37 fun e41 w42 => ∃ b43 : Bool, e41 = .returned (.bool b43) ∧
 brB b43
 (∃ t44 : ByteArray, w42.cell? ⟨b21, 5, none⟩ = some (.string t44) ∧
 ∃ t45 : ByteArray, w42.cell? ⟨b23, 5, none⟩ = some (.string t45) ∧
 brB (t44.toList == t45.toList)
 (∃ t46 : ByteArray, w42.cell? ⟨b21, 6, none⟩ = some (.string t46) ∧
 ∃ t47 : ByteArray, w42.cell? ⟨b23, 6, none⟩ = some (.string t47) ∧
 brB (t46.toList == t47.toList)
 (∃ n48 : Int, w42.cell? ⟨b21, 7, none⟩ = some (.int .i64 n48) ∧
 ∃ n49 : Int, w42.cell? ⟨b23, 7, none⟩ = some (.int .i64 n49) ∧
 brB (n48 == n49)
 (∃ n50 : Int, w42.cell? ⟨b21, 8, none⟩ = some (.int .i64 n50) ∧
 ∃ n51 : Int, w42.cell? ⟨b23, 8, none⟩ = some (.int .i64 n51) ∧
 brB (n50 == n51)
 (∃ n52 : Int, w42.cell? ⟨b21, 9, none⟩ = some (.int .i64 n52) ∧
 ∃ n53 : Int, w42.cell? ⟨b23, 9, none⟩ = some (.int .i64 n53) ∧
 K (.bool (n52 == n53)) w42)
 (K (.bool false) w42))
 (K (.bool false) w42))
 (K (.bool false) w42))
 (K (.bool false) w42))
 (K (.bool false) w42))
 (K (.bool false) w37))
 (K (.bool false) w32))
 (K (.bool false) w24))
 (K (.bool false) w24)
def hollowaybook_SameState_an : An := ⟨[], [], []⟩
theorem hollowaybook_SameState_lift {a1 : Int} {a2 : Int} {a3 : Sl} {a4 : Sl} {a5 : Sl} {a6 : ByteArray} {a7 : ByteArray} {a8 : Int} {a9 : Int} {a10 : Int} {b11 : Int} {b12 : Int} {b13 : Sl} {b14 : Sl} {b15 : Sl} {b16 : ByteArray} {b17 : ByteArray} {b18 : Int} {b19 : Int} {b20 : Int} {w : World} {K : Value → World → Prop} (h : hollowaybook_SameState_sh a1 a2 a3 a4 a5 a6 a7 a8 a9 a10 b11 b12 b13 b14 b15 b16 b17 b18 b19 b20 w K) : Calls Tryz.prog fn_hollowaybook_SameState #[.agg #[.int .i64 a1, .int .i64 a2, a3.val, a4.val, a5.val, .string a6, .string a7, .int .i64 a8, .int .i64 a9, .int .i64 a10], .agg #[.int .i64 b11, .int .i64 b12, b13.val, b14.val, b15.val, .string b16, .string b17, .int .i64 b18, .int .i64 b19, .int .i64 b20]] w fun e w' => ∃ v, e = .returned v ∧ K v w' :=
   lift_calls (A := hollowaybook_SameState_an) (c := bodyOf Tryz.f17) (args := [.agg #[.int .i64 a1, .int .i64 a2, a3.val, a4.val, a5.val, .string a6, .string a7, .int .i64 a8, .int .i64 a9, .int .i64 a10], .agg #[.int .i64 b11, .int .i64 b12, b13.val, b14.val, b15.val, .string b16, .string b17, .int .i64 b18, .int .i64 b19, .int .i64 b20]]) orc orc_wide Tryz.func17 (by kernel_rfl) (by kernel_rfl) (Eq.mp (by kernel_rfl : hollowaybook_SameState_sh a1 a2 a3 a4 a5 a6 a7 a8 a9 a10 b11 b12 b13 b14 b15 b16 b17 b18 b19 b20 w K = wpc orc Tryz.f17.ntmps hollowaybook_SameState_an (bodyOf Tryz.f17) (argl 0 [.agg #[.int .i64 a1, .int .i64 a2, a3.val, a4.val, a5.val, .string a6, .string a7, .int .i64 a8, .int .i64 a9, .int .i64 a10], .agg #[.int .i64 b11, .int .i64 b12, b13.val, b14.val, b15.val, .string b16, .string b17, .int .i64 b18, .int .i64 b19, .int .i64 b20]]) w (retQ orc Tryz.f17.results.toList K)) h)

def hollowaybook_StaysTrace_sh (m1 : Int) (m2 : Int) (m3 : Int) (m4 : Int) (m5 : Int) (m6 : Sl) (m7 : Sl) (m8 : Int) (m9 : Sl) (was_Start10 : Int) (was_Slots11 : Int) (was_Backs12 : Int) (was_Grow13 : Int) (was_GrowBack14 : Int) (was_Ins15 : Sl) (was_Outs16 : Sl) (was_Last17 : Int) (was_Cells18 : Sl) (w : World) (K : Value → World → Prop) : Prop :=
 ∀ (b19 : Nat) (w20 : World), b19 = w.heap.size → w20 = World.alloc w (.cells #[.int .i64 m1, .int .i64 m2, .int .i64 m3, .int .i64 m4, .int .i64 m5, m6.val, m7.val, .int .i64 m8, m9.val] T_api_Trace) →
 ∀ (b21 : Nat) (w22 : World), b21 = w20.heap.size → w22 = World.alloc w20 (.cells #[.int .i64 was_Start10, .int .i64 was_Slots11, .int .i64 was_Backs12, .int .i64 was_Grow13, .int .i64 was_GrowBack14, was_Ins15.val, was_Outs16.val, .int .i64 was_Last17, was_Cells18.val] T_api_Trace) →
 ∃ s23 : Sl, w22.cell? ⟨b19, 5, none⟩ = some (s23.val) ∧
 ∃ s24 : Sl, w22.cell? ⟨b21, 5, none⟩ = some (s24.val) ∧
 Calls Tryz.prog fn_hollowaybook_StaysCodes #[s23.val, s24.val] w22 fun e25 w26 => ∃ b27 : Bool, e25 = .returned (.bool b27) ∧
 brB b27
 (∃ s28 : Sl, w26.cell? ⟨b19, 6, none⟩ = some (s28.val) ∧
 ∃ s29 : Sl, w26.cell? ⟨b21, 6, none⟩ = some (s29.val) ∧
 Calls Tryz.prog fn_hollowaybook_StaysExits #[s28.val, s29.val] w26 fun e30 w31 => ∃ b32 : Bool, e30 = .returned (.bool b32) ∧
 brB b32
 (∃ s33 : Sl, w31.cell? ⟨b19, 8, none⟩ = some (s33.val) ∧
 ∃ s34 : Sl, w31.cell? ⟨b21, 8, none⟩ = some (s34.val) ∧
 Calls Tryz.prog fn_hollowaybook_StaysInts #[s33.val, s34.val] w31 fun e35 w36 => ∃ b37 : Bool, e35 = .returned (.bool b37) ∧
 K (.bool b37) w36)
 (K (.bool false) w31))
 (K (.bool false) w26)
def hollowaybook_StaysTrace_an : An := ⟨[], [], []⟩
theorem hollowaybook_StaysTrace_lift {m1 : Int} {m2 : Int} {m3 : Int} {m4 : Int} {m5 : Int} {m6 : Sl} {m7 : Sl} {m8 : Int} {m9 : Sl} {was_Start10 : Int} {was_Slots11 : Int} {was_Backs12 : Int} {was_Grow13 : Int} {was_GrowBack14 : Int} {was_Ins15 : Sl} {was_Outs16 : Sl} {was_Last17 : Int} {was_Cells18 : Sl} {w : World} {K : Value → World → Prop} (h : hollowaybook_StaysTrace_sh m1 m2 m3 m4 m5 m6 m7 m8 m9 was_Start10 was_Slots11 was_Backs12 was_Grow13 was_GrowBack14 was_Ins15 was_Outs16 was_Last17 was_Cells18 w K) : Calls Tryz.prog fn_hollowaybook_StaysTrace #[.agg #[.int .i64 m1, .int .i64 m2, .int .i64 m3, .int .i64 m4, .int .i64 m5, m6.val, m7.val, .int .i64 m8, m9.val], .agg #[.int .i64 was_Start10, .int .i64 was_Slots11, .int .i64 was_Backs12, .int .i64 was_Grow13, .int .i64 was_GrowBack14, was_Ins15.val, was_Outs16.val, .int .i64 was_Last17, was_Cells18.val]] w fun e w' => ∃ v, e = .returned v ∧ K v w' :=
   lift_calls (A := hollowaybook_StaysTrace_an) (c := bodyOf Tryz.f19) (args := [.agg #[.int .i64 m1, .int .i64 m2, .int .i64 m3, .int .i64 m4, .int .i64 m5, m6.val, m7.val, .int .i64 m8, m9.val], .agg #[.int .i64 was_Start10, .int .i64 was_Slots11, .int .i64 was_Backs12, .int .i64 was_Grow13, .int .i64 was_GrowBack14, was_Ins15.val, was_Outs16.val, .int .i64 was_Last17, was_Cells18.val]]) orc orc_wide Tryz.func19 (by kernel_rfl) (by kernel_rfl) (Eq.mp (by kernel_rfl : hollowaybook_StaysTrace_sh m1 m2 m3 m4 m5 m6 m7 m8 m9 was_Start10 was_Slots11 was_Backs12 was_Grow13 was_GrowBack14 was_Ins15 was_Outs16 was_Last17 was_Cells18 w K = wpc orc Tryz.f19.ntmps hollowaybook_StaysTrace_an (bodyOf Tryz.f19) (argl 0 [.agg #[.int .i64 m1, .int .i64 m2, .int .i64 m3, .int .i64 m4, .int .i64 m5, m6.val, m7.val, .int .i64 m8, m9.val], .agg #[.int .i64 was_Start10, .int .i64 was_Slots11, .int .i64 was_Backs12, .int .i64 was_Grow13, .int .i64 was_GrowBack14, was_Ins15.val, was_Outs16.val, .int .i64 was_Last17, was_Cells18.val]]) w (retQ orc Tryz.f19.results.toList K)) h)

def hollowaybook_StaysState_sh (m1 : Int) (m2 : Int) (m3 : Sl) (m4 : Sl) (m5 : Sl) (m6 : ByteArray) (m7 : ByteArray) (m8 : Int) (m9 : Int) (m10 : Int) (was_Ip11 : Int) (was_Handler12 : Int) (was_Stack13 : Sl) (was_Back14 : Sl) (was_Mem15 : Sl) (was_Out16 : ByteArray) (was_In17 : ByteArray) (was_Read18 : Int) (was_Status19 : Int) (was_Code20 : Int) (w : World) (K : Value → World → Prop) : Prop :=
 ∀ (b21 : Nat) (w22 : World), b21 = w.heap.size → w22 = World.alloc w (.cells #[.int .i64 m1, .int .i64 m2, m3.val, m4.val, m5.val, .string m6, .string m7, .int .i64 m8, .int .i64 m9, .int .i64 m10] T_api_State) →
 ∀ (b23 : Nat) (w24 : World), b23 = w22.heap.size → w24 = World.alloc w22 (.cells #[.int .i64 was_Ip11, .int .i64 was_Handler12, was_Stack13.val, was_Back14.val, was_Mem15.val, .string was_Out16, .string was_In17, .int .i64 was_Read18, .int .i64 was_Status19, .int .i64 was_Code20] T_api_State) →
 ∃ n25 n26 : Int, ∃ s27 s28 s29 : Sl, ∃ t30 t31 : ByteArray, ∃ n32 n33 n34 : Int, w24.cell? ⟨b21, 0, none⟩ = some (.int .i64 n25) ∧ w24.cell? ⟨b21, 1, none⟩ = some (.int .i64 n26) ∧ w24.cell? ⟨b21, 2, none⟩ = some (s27.val) ∧ w24.cell? ⟨b21, 3, none⟩ = some (s28.val) ∧ w24.cell? ⟨b21, 4, none⟩ = some (s29.val) ∧ w24.cell? ⟨b21, 5, none⟩ = some (.string t30) ∧ w24.cell? ⟨b21, 6, none⟩ = some (.string t31) ∧ w24.cell? ⟨b21, 7, none⟩ = some (.int .i64 n32) ∧ w24.cell? ⟨b21, 8, none⟩ = some (.int .i64 n33) ∧ w24.cell? ⟨b21, 9, none⟩ = some (.int .i64 n34) ∧
 ∃ n35 n36 : Int, ∃ s37 s38 s39 : Sl, ∃ t40 t41 : ByteArray, ∃ n42 n43 n44 : Int, w24.cell? ⟨b23, 0, none⟩ = some (.int .i64 n35) ∧ w24.cell? ⟨b23, 1, none⟩ = some (.int .i64 n36) ∧ w24.cell? ⟨b23, 2, none⟩ = some (s37.val) ∧ w24.cell? ⟨b23, 3, none⟩ = some (s38.val) ∧ w24.cell? ⟨b23, 4, none⟩ = some (s39.val) ∧ w24.cell? ⟨b23, 5, none⟩ = some (.string t40) ∧ w24.cell? ⟨b23, 6, none⟩ = some (.string t41) ∧ w24.cell? ⟨b23, 7, none⟩ = some (.int .i64 n42) ∧ w24.cell? ⟨b23, 8, none⟩ = some (.int .i64 n43) ∧ w24.cell? ⟨b23, 9, none⟩ = some (.int .i64 n44) ∧
 Calls Tryz.prog fn_hollowaybook_SameState #[.agg #[.int .i64 n25, .int .i64 n26, s27.val, s28.val, s29.val, .string t30, .string t31, .int .i64 n32, .int .i64 n33, .int .i64 n34], .agg #[.int .i64 n35, .int .i64 n36, s37.val, s38.val, s39.val, .string t40, .string t41, .int .i64 n42, .int .i64 n43, .int .i64 n44]] w24 fun e45 w46 => ∃ b47 : Bool, e45 = .returned (.bool b47) ∧
 brB b47
 (∃ s48 : Sl, w46.cell? ⟨b21, 2, none⟩ = some (s48.val) ∧
 ∃ s49 : Sl, w46.cell? ⟨b23, 2, none⟩ = some (s49.val) ∧
 Calls Tryz.prog fn_hollowaybook_StaysInts #[s48.val, s49.val] w46 fun e50 w51 => ∃ b52 : Bool, e50 = .returned (.bool b52) ∧
 brB b52
 (∃ s53 : Sl, w51.cell? ⟨b21, 3, none⟩ = some (s53.val) ∧
 ∃ s54 : Sl, w51.cell? ⟨b23, 3, none⟩ = some (s54.val) ∧
 Calls Tryz.prog fn_hollowaybook_StaysInts #[s53.val, s54.val] w51 fun e55 w56 => ∃ b57 : Bool, e55 = .returned (.bool b57) ∧
 brB b57
 (∃ s58 : Sl, w56.cell? ⟨b21, 4, none⟩ = some (s58.val) ∧
 ∃ s59 : Sl, w56.cell? ⟨b23, 4, none⟩ = some (s59.val) ∧
 Calls Tryz.prog fn_hollowaybook_StaysInts #[s58.val, s59.val] w56 fun e60 w61 => ∃ b62 : Bool, e60 = .returned (.bool b62) ∧
 K (.bool b62) w61)
 (K (.bool false) w56))
 (K (.bool false) w51))
 (K (.bool false) w46)
def hollowaybook_StaysState_an : An := ⟨[], [], []⟩
theorem hollowaybook_StaysState_lift {m1 : Int} {m2 : Int} {m3 : Sl} {m4 : Sl} {m5 : Sl} {m6 : ByteArray} {m7 : ByteArray} {m8 : Int} {m9 : Int} {m10 : Int} {was_Ip11 : Int} {was_Handler12 : Int} {was_Stack13 : Sl} {was_Back14 : Sl} {was_Mem15 : Sl} {was_Out16 : ByteArray} {was_In17 : ByteArray} {was_Read18 : Int} {was_Status19 : Int} {was_Code20 : Int} {w : World} {K : Value → World → Prop} (h : hollowaybook_StaysState_sh m1 m2 m3 m4 m5 m6 m7 m8 m9 m10 was_Ip11 was_Handler12 was_Stack13 was_Back14 was_Mem15 was_Out16 was_In17 was_Read18 was_Status19 was_Code20 w K) : Calls Tryz.prog fn_hollowaybook_StaysState #[.agg #[.int .i64 m1, .int .i64 m2, m3.val, m4.val, m5.val, .string m6, .string m7, .int .i64 m8, .int .i64 m9, .int .i64 m10], .agg #[.int .i64 was_Ip11, .int .i64 was_Handler12, was_Stack13.val, was_Back14.val, was_Mem15.val, .string was_Out16, .string was_In17, .int .i64 was_Read18, .int .i64 was_Status19, .int .i64 was_Code20]] w fun e w' => ∃ v, e = .returned v ∧ K v w' :=
   lift_calls (A := hollowaybook_StaysState_an) (c := bodyOf Tryz.f20) (args := [.agg #[.int .i64 m1, .int .i64 m2, m3.val, m4.val, m5.val, .string m6, .string m7, .int .i64 m8, .int .i64 m9, .int .i64 m10], .agg #[.int .i64 was_Ip11, .int .i64 was_Handler12, was_Stack13.val, was_Back14.val, was_Mem15.val, .string was_Out16, .string was_In17, .int .i64 was_Read18, .int .i64 was_Status19, .int .i64 was_Code20]]) orc orc_wide Tryz.func20 (by kernel_rfl) (by kernel_rfl) (Eq.mp (by kernel_rfl : hollowaybook_StaysState_sh m1 m2 m3 m4 m5 m6 m7 m8 m9 m10 was_Ip11 was_Handler12 was_Stack13 was_Back14 was_Mem15 was_Out16 was_In17 was_Read18 was_Status19 was_Code20 w K = wpc orc Tryz.f20.ntmps hollowaybook_StaysState_an (bodyOf Tryz.f20) (argl 0 [.agg #[.int .i64 m1, .int .i64 m2, m3.val, m4.val, m5.val, .string m6, .string m7, .int .i64 m8, .int .i64 m9, .int .i64 m10], .agg #[.int .i64 was_Ip11, .int .i64 was_Handler12, was_Stack13.val, was_Back14.val, was_Mem15.val, .string was_Out16, .string was_In17, .int .i64 was_Read18, .int .i64 was_Status19, .int .i64 was_Code20]]) w (retQ orc Tryz.f20.results.toList K)) h)

def hollowaybook_StaysInts_sh (m_1 : Sl) (was2 : Sl) (w : World) (K : Value → World → Prop) : Prop :=
 Calls Tryz.prog fn_hollowaybook_SameInts #[m_1.val, was2.val] w fun e3 w4 => ∃ b5 : Bool, e3 = .returned (.bool b5) ∧
 brB b5
 (0 ≤ (wr ((m_1.len : Int) + (1 : Int))) ∧ (wr ((m_1.len : Int) + (1 : Int))) ≤ (m_1.cap : Int) ∧ ∀ s6 : Sl, s6 = Sl.sub m_1.ptr m_1.cap 0 (Int.toNat (wr ((m_1.len : Int) + (1 : Int)))) 1 →
 ∃ a7 : Addr, s6.ptr = some a7 ∧ 0 ≤ (m_1.len : Int) ∧ (m_1.len : Int) < (s6.len : Int) ∧
 ∃ n8 : Int, w4.cell? (Addr.add a7 (Int.toNat (m_1.len : Int) * 1)) = some (.int .i64 n8) ∧
 K (.bool (n8 == (-77 : Int))) w4)
 (K (.bool false) w4)
def hollowaybook_StaysInts_an : An := ⟨[], [], []⟩
theorem hollowaybook_StaysInts_lift {m_1 : Sl} {was2 : Sl} {w : World} {K : Value → World → Prop} (h : hollowaybook_StaysInts_sh m_1 was2 w K) : Calls Tryz.prog fn_hollowaybook_StaysInts #[m_1.val, was2.val] w fun e w' => ∃ v, e = .returned v ∧ K v w' :=
   lift_calls (A := hollowaybook_StaysInts_an) (c := bodyOf Tryz.f21) (args := [m_1.val, was2.val]) orc orc_wide Tryz.func21 (by kernel_rfl) (by kernel_rfl) (Eq.mp (by kernel_rfl : hollowaybook_StaysInts_sh m_1 was2 w K = wpc orc Tryz.f21.ntmps hollowaybook_StaysInts_an (bodyOf Tryz.f21) (argl 0 [m_1.val, was2.val]) w (retQ orc Tryz.f21.results.toList K)) h)

def hollowaybook_Book_Apart_sh (b_1 : Nat) (w : World) (K : Value → World → Prop) : Prop :=
 Calls Tryz.prog fn_hollowaybook_Book_stillTexts #[.pointer (some ⟨b_1, 0, none⟩)] w fun e2 w3 => ∃ b4 : Bool, e2 = .returned (.bool b4) ∧
 brB (!b4)
 (K (.bool false) w3)
 (Calls Tryz.prog fn_hollowaybook_Book_stillInts #[.pointer (some ⟨b_1, 0, none⟩)] w3 fun e5 w6 => ∃ b7 : Bool, e5 = .returned (.bool b7) ∧
 brB (!b7)
 (K (.bool false) w6)
 (Calls Tryz.prog fn_hollowaybook_Book_stillWords #[.pointer (some ⟨b_1, 0, none⟩)] w6 fun e8 w9 => ∃ b10 : Bool, e8 = .returned (.bool b10) ∧
 brB (!b10)
 (K (.bool false) w9)
 (Calls Tryz.prog fn_hollowaybook_Book_stillSeens #[.pointer (some ⟨b_1, 0, none⟩)] w9 fun e11 w12 => ∃ b13 : Bool, e11 = .returned (.bool b13) ∧
 brB (!b13)
 (K (.bool false) w12)
 (Calls Tryz.prog fn_hollowaybook_Book_stillCodes #[.pointer (some ⟨b_1, 0, none⟩)] w12 fun e14 w15 => ∃ b16 : Bool, e14 = .returned (.bool b16) ∧
 brB (!b16)
 (K (.bool false) w15)
 (Calls Tryz.prog fn_hollowaybook_Book_stillExits #[.pointer (some ⟨b_1, 0, none⟩)] w15 fun e17 w18 => ∃ b19 : Bool, e17 = .returned (.bool b19) ∧
 brB (!b19)
 (K (.bool false) w18)
 (Calls Tryz.prog fn_hollowaybook_Book_putExits #[.pointer (some ⟨b_1, 0, none⟩)] w18 fun e20 w21 => e20 = .returned (.tuple #[]) ∧
 Calls Tryz.prog fn_hollowaybook_Book_putTexts #[.pointer (some ⟨b_1, 0, none⟩)] w21 fun e22 w23 => e22 = .returned (.tuple #[]) ∧
 Calls Tryz.prog fn_hollowaybook_Book_putInts #[.pointer (some ⟨b_1, 0, none⟩)] w23 fun e24 w25 => e24 = .returned (.tuple #[]) ∧
 Calls Tryz.prog fn_hollowaybook_Book_putWords #[.pointer (some ⟨b_1, 0, none⟩)] w25 fun e26 w27 => e26 = .returned (.tuple #[]) ∧
 Calls Tryz.prog fn_hollowaybook_Book_putSeens #[.pointer (some ⟨b_1, 0, none⟩)] w27 fun e28 w29 => e28 = .returned (.tuple #[]) ∧
 Calls Tryz.prog fn_hollowaybook_Book_putCodes #[.pointer (some ⟨b_1, 0, none⟩)] w29 fun e30 w31 => e30 = .returned (.tuple #[]) ∧
 Calls Tryz.prog fn_hollowaybook_Book_growTexts #[.pointer (some ⟨b_1, 0, none⟩)] w31 fun e32 w33 => ∃ s34 : Sl, e32 = .returned (s34.val) ∧
 Calls Tryz.prog fn_hollowaybook_Book_growInts #[.pointer (some ⟨b_1, 0, none⟩)] w33 fun e35 w36 => ∃ s37 : Sl, e35 = .returned (s37.val) ∧
 Calls Tryz.prog fn_hollowaybook_Book_growWords #[.pointer (some ⟨b_1, 0, none⟩)] w36 fun e38 w39 => ∃ s40 : Sl, e38 = .returned (s40.val) ∧
 Calls Tryz.prog fn_hollowaybook_Book_growSeens #[.pointer (some ⟨b_1, 0, none⟩)] w39 fun e41 w42 => ∃ s43 : Sl, e41 = .returned (s43.val) ∧
 Calls Tryz.prog fn_hollowaybook_Book_growCodes #[.pointer (some ⟨b_1, 0, none⟩)] w42 fun e44 w45 => ∃ s46 : Sl, e44 = .returned (s46.val) ∧
 Calls Tryz.prog fn_hollowaybook_Book_growExits #[.pointer (some ⟨b_1, 0, none⟩)] w45 fun e47 w48 => ∃ s49 : Sl, e47 = .returned (s49.val) ∧
 Calls Tryz.prog fn_hollowaybook_markedTexts #[s34.val] w48 fun e50 w51 => ∃ b52 : Bool, e50 = .returned (.bool b52) ∧
 brB b52
 (∃ s53 : Sl, w51.cell? ⟨b_1, 0, none⟩ = some (s53.val) ∧
 Calls Tryz.prog fn_hollowaybook_markedTexts #[s53.val] w51 fun e54 w55 => ∃ b56 : Bool, e54 = .returned (.bool b56) ∧
 brB b56
 (Calls Tryz.prog fn_hollowaybook_markedInts #[s37.val] w55 fun e57 w58 => ∃ b59 : Bool, e57 = .returned (.bool b59) ∧
 brB b59
 (∃ s60 : Sl, w58.cell? ⟨b_1, 2, none⟩ = some (s60.val) ∧
 Calls Tryz.prog fn_hollowaybook_markedInts #[s60.val] w58 fun e61 w62 => ∃ b63 : Bool, e61 = .returned (.bool b63) ∧
 brB b63
 (Calls Tryz.prog fn_hollowaybook_markedWords #[s40.val] w62 fun e64 w65 => ∃ b66 : Bool, e64 = .returned (.bool b66) ∧
 brB b66
 (∃ s67 : Sl, w65.cell? ⟨b_1, 4, none⟩ = some (s67.val) ∧
 Calls Tryz.prog fn_hollowaybook_markedWords #[s67.val] w65 fun e68 w69 => ∃ b70 : Bool, e68 = .returned (.bool b70) ∧
 brB b70
 (Calls Tryz.prog fn_hollowaybook_markedSeens #[s43.val] w69 fun e71 w72 => ∃ b73 : Bool, e71 = .returned (.bool b73) ∧
 brB b73
 (∃ s74 : Sl, w72.cell? ⟨b_1, 6, none⟩ = some (s74.val) ∧
 Calls Tryz.prog fn_hollowaybook_markedSeens #[s74.val] w72 fun e75 w76 => ∃ b77 : Bool, e75 = .returned (.bool b77) ∧
 brB b77
 (Calls Tryz.prog fn_hollowaybook_markedCodes #[s46.val] w76 fun e78 w79 => ∃ b80 : Bool, e78 = .returned (.bool b80) ∧
 brB b80
 (∃ s81 : Sl, w79.cell? ⟨b_1, 8, none⟩ = some (s81.val) ∧
 Calls Tryz.prog fn_hollowaybook_markedCodes #[s81.val] w79 fun e82 w83 => ∃ b84 : Bool, e82 = .returned (.bool b84) ∧
 brB b84
 (Calls Tryz.prog fn_hollowaybook_markedExits #[s49.val] w83 fun e85 w86 => ∃ b87 : Bool, e85 = .returned (.bool b87) ∧
 brB b87
 (∃ s88 : Sl, w86.cell? ⟨b_1, 10, none⟩ = some (s88.val) ∧
 Calls Tryz.prog fn_hollowaybook_markedExits #[s88.val] w86 fun e89 w90 => ∃ b91 : Bool, e89 = .returned (.bool b91) ∧
 K (.bool b91) w90)
 (K (.bool false) w86))
 (K (.bool false) w83))
 (K (.bool false) w79))
 (K (.bool false) w76))
 (K (.bool false) w72))
 (K (.bool false) w69))
 (K (.bool false) w65))
 (K (.bool false) w62))
 (K (.bool false) w58))
 (K (.bool false) w55))
 (K (.bool false) w51)))))))
def hollowaybook_Book_Apart_an : An := ⟨[], [], []⟩
theorem hollowaybook_Book_Apart_lift {b_1 : Nat} {w : World} {K : Value → World → Prop} (h : hollowaybook_Book_Apart_sh b_1 w K) : Calls Tryz.prog fn_hollowaybook_Book_Apart #[.pointer (some ⟨b_1, 0, none⟩)] w fun e w' => ∃ v, e = .returned v ∧ K v w' :=
   lift_calls (A := hollowaybook_Book_Apart_an) (c := bodyOf Tryz.f22) (args := [.pointer (some ⟨b_1, 0, none⟩)]) orc orc_wide Tryz.func22 (by kernel_rfl) (by kernel_rfl) (Eq.mp (by kernel_rfl : hollowaybook_Book_Apart_sh b_1 w K = wpc orc Tryz.f22.ntmps hollowaybook_Book_Apart_an (bodyOf Tryz.f22) (argl 0 [.pointer (some ⟨b_1, 0, none⟩)]) w (retQ orc Tryz.f22.results.toList K)) h)

def hollowaybook_Book_Trace_sh (b_1 : Nat) (t2 : Int) (t3 : Int) (t4 : Int) (t5 : Int) (t6 : Int) (t7 : Sl) (t8 : Sl) (t9 : Int) (t10 : Sl) (w : World) (K : Value → World → Prop) : Prop :=
 ∀ (b11 : Nat) (w12 : World), b11 = w.heap.size → w12 = World.alloc w (.cells #[.int .i64 t2, .int .i64 t3, .int .i64 t4, .int .i64 t5, .int .i64 t6, t7.val, t8.val, .int .i64 t9, t10.val] T_api_Trace) →
 ∃ s13 : Sl, w12.cell? ⟨b11, 5, none⟩ = some (s13.val) ∧
 Calls Tryz.prog fn_hollowaybook_Book_Codes #[.pointer (some ⟨b_1, 0, none⟩), s13.val] w12 fun e14 w15 => e14 = .returned (.tuple #[]) ∧
 ∃ s16 : Sl, w15.cell? ⟨b11, 6, none⟩ = some (s16.val) ∧
 Calls Tryz.prog fn_hollowaybook_Book_Exits #[.pointer (some ⟨b_1, 0, none⟩), s16.val] w15 fun e17 w18 => e17 = .returned (.tuple #[]) ∧
 ∃ s19 : Sl, w18.cell? ⟨b11, 8, none⟩ = some (s19.val) ∧
 Calls Tryz.prog fn_hollowaybook_Book_Ints #[.pointer (some ⟨b_1, 0, none⟩), s19.val] w18 fun e20 w21 => e20 = .returned (.tuple #[]) ∧
 K (.tuple #[]) w21
def hollowaybook_Book_Trace_an : An := ⟨[], [], []⟩
theorem hollowaybook_Book_Trace_lift {b_1 : Nat} {t2 : Int} {t3 : Int} {t4 : Int} {t5 : Int} {t6 : Int} {t7 : Sl} {t8 : Sl} {t9 : Int} {t10 : Sl} {w : World} {K : Value → World → Prop} (h : hollowaybook_Book_Trace_sh b_1 t2 t3 t4 t5 t6 t7 t8 t9 t10 w K) : Calls Tryz.prog fn_hollowaybook_Book_Trace #[.pointer (some ⟨b_1, 0, none⟩), .agg #[.int .i64 t2, .int .i64 t3, .int .i64 t4, .int .i64 t5, .int .i64 t6, t7.val, t8.val, .int .i64 t9, t10.val]] w fun e w' => ∃ v, e = .returned v ∧ K v w' :=
   lift_calls (A := hollowaybook_Book_Trace_an) (c := bodyOf Tryz.f26) (args := [.pointer (some ⟨b_1, 0, none⟩), .agg #[.int .i64 t2, .int .i64 t3, .int .i64 t4, .int .i64 t5, .int .i64 t6, t7.val, t8.val, .int .i64 t9, t10.val]]) orc orc_wide Tryz.func26 (by kernel_rfl) (by kernel_rfl) (Eq.mp (by kernel_rfl : hollowaybook_Book_Trace_sh b_1 t2 t3 t4 t5 t6 t7 t8 t9 t10 w K = wpc orc Tryz.f26.ntmps hollowaybook_Book_Trace_an (bodyOf Tryz.f26) (argl 0 [.pointer (some ⟨b_1, 0, none⟩), .agg #[.int .i64 t2, .int .i64 t3, .int .i64 t4, .int .i64 t5, .int .i64 t6, t7.val, t8.val, .int .i64 t9, t10.val]]) w (retQ orc Tryz.f26.results.toList K)) h)

def hollowaybook_SameInts_sh (a_1 : Sl) (b_2 : Sl) (w : World) (K : Value → World → Prop) : Prop :=
 brB ((a_1.len : Int) != (b_2.len : Int))
 (K (.bool false) w)
 (∃ (I1 : Int → World → Prop) (μ1 : Int → World → Nat), I1 (0 : Int) w ∧ ∀ (i4 : Int) (w3 : World), I1 i4 w3 →
 brB (decide (i4 < (a_1.len : Int)))
 (∀ w5 : World, w5 = World.drew w3 →
 ∃ a6 : Addr, a_1.ptr = some a6 ∧ 0 ≤ i4 ∧ i4 < (a_1.len : Int) ∧
 ∃ n7 : Int, held (Lw w5) (Addr.add a6 (Int.toNat i4 * 1)) (.int .i64 n7) ∧
 ∃ a8 : Addr, b_2.ptr = some a8 ∧ 0 ≤ i4 ∧ i4 < (b_2.len : Int) ∧
 ∃ n9 : Int, held (Lw w5) (Addr.add a8 (Int.toNat i4 * 1)) (.int .i64 n9) ∧
 brB (!(n7 == n9))
 (K (.bool false) w5)
 (I1 (wr (i4 + (1 : Int))) w5 ∧ μ1 (wr (i4 + (1 : Int))) w5 < μ1 i4 w3))
 (K (.bool true) w3))
def hollowaybook_SameInts_an : An := ⟨[(4, [(5, .int .i64)])], [(6, (10, .st 0 (.st 1 (.st 2 (.st 3 (.st 4 (.st 5 (.st 6 (.st 7 (.st 8 (.st 9 .done))))))))), 0))], []⟩
theorem hollowaybook_SameInts_lift {a_1 : Sl} {b_2 : Sl} {w : World} {K : Value → World → Prop} (h : hollowaybook_SameInts_sh a_1 b_2 w K) : Calls Tryz.prog fn_hollowaybook_SameInts #[a_1.val, b_2.val] w fun e w' => ∃ v, e = .returned v ∧ K v w' :=
   lift_calls (A := hollowaybook_SameInts_an) (c := bodyOf Tryz.f27) (args := [a_1.val, b_2.val]) orc orc_wide Tryz.func27 (by kernel_rfl) (by kernel_rfl) (Eq.mp (by kernel_rfl : hollowaybook_SameInts_sh a_1 b_2 w K = wpc orc Tryz.f27.ntmps hollowaybook_SameInts_an (bodyOf Tryz.f27) (argl 0 [a_1.val, b_2.val]) w (retQ orc Tryz.f27.results.toList K)) h)

def hollowaybook_LentCodes_sh (l_1 : Sl) (w : World) (K : Value → World → Prop) : Prop :=
 Calls Tryz.prog fn_hollowaybook_copyCodes #[l_1.val] w fun e2 w3 => ∃ s4 : Sl, e2 = .returned (s4.val) ∧
 ∀ (b5 : Nat) (w6 : World), b5 = w3.heap.size → w6 = World.alloc w3 (.cells #[.int .i64 (-77 : Int), .int .i64 (0 : Int), .int .i64 (0 : Int), .int .i64 (0 : Int), .int .i64 (0 : Int)] T_api_Ins) →
 ∃ s7 : Sl, ∃ w8 : World, (Builtin.append_ #[T_sl_api_Ins, T_sl_api_Ins] T_sl_api_Ins #[s4.val, .slice (some ⟨b5, 0, none⟩) 1 1]).run Tryz.prog w6 = .ok (s7.val) w8 ∧
 0 ≤ (l_1.len : Int) ∧ (l_1.len : Int) ≤ (s7.cap : Int) ∧ ∀ s9 : Sl, s9 = Sl.sub s7.ptr s7.cap 0 (Int.toNat (l_1.len : Int)) 5 →
 K (s9.val) w8
def hollowaybook_LentCodes_an : An := ⟨[], [], []⟩
theorem hollowaybook_LentCodes_lift {l_1 : Sl} {w : World} {K : Value → World → Prop} (h : hollowaybook_LentCodes_sh l_1 w K) : Calls Tryz.prog fn_hollowaybook_LentCodes #[l_1.val] w fun e w' => ∃ v, e = .returned v ∧ K v w' :=
   lift_calls (A := hollowaybook_LentCodes_an) (c := bodyOf Tryz.f46) (args := [l_1.val]) orc orc_wide Tryz.func46 (by kernel_rfl) (by kernel_rfl) (Eq.mp (by kernel_rfl : hollowaybook_LentCodes_sh l_1 w K = wpc orc Tryz.f46.ntmps hollowaybook_LentCodes_an (bodyOf Tryz.f46) (argl 0 [l_1.val]) w (retQ orc Tryz.f46.results.toList K)) h)

def hollowaybook_LentExits_sh (l_1 : Sl) (w : World) (K : Value → World → Prop) : Prop :=
 Calls Tryz.prog fn_hollowaybook_copyExits #[l_1.val] w fun e2 w3 => ∃ s4 : Sl, e2 = .returned (s4.val) ∧
 ∀ (b5 : Nat) (w6 : World), b5 = w3.heap.size → w6 = World.alloc w3 (.cells #[.int .i64 (-77 : Int), .int .i64 (0 : Int), .slice none 0 0, .slice none 0 0] T_api_Out) →
 ∃ s7 : Sl, ∃ w8 : World, (Builtin.append_ #[T_sl_api_Out, T_sl_api_Out] T_sl_api_Out #[s4.val, .slice (some ⟨b5, 0, none⟩) 1 1]).run Tryz.prog w6 = .ok (s7.val) w8 ∧
 0 ≤ (l_1.len : Int) ∧ (l_1.len : Int) ≤ (s7.cap : Int) ∧ ∀ s9 : Sl, s9 = Sl.sub s7.ptr s7.cap 0 (Int.toNat (l_1.len : Int)) 4 →
 K (s9.val) w8
def hollowaybook_LentExits_an : An := ⟨[], [], []⟩
theorem hollowaybook_LentExits_lift {l_1 : Sl} {w : World} {K : Value → World → Prop} (h : hollowaybook_LentExits_sh l_1 w K) : Calls Tryz.prog fn_hollowaybook_LentExits #[l_1.val] w fun e w' => ∃ v, e = .returned v ∧ K v w' :=
   lift_calls (A := hollowaybook_LentExits_an) (c := bodyOf Tryz.f47) (args := [l_1.val]) orc orc_wide Tryz.func47 (by kernel_rfl) (by kernel_rfl) (Eq.mp (by kernel_rfl : hollowaybook_LentExits_sh l_1 w K = wpc orc Tryz.f47.ntmps hollowaybook_LentExits_an (bodyOf Tryz.f47) (argl 0 [l_1.val]) w (retQ orc Tryz.f47.results.toList K)) h)

def hollowaybook_copyInts_sh (l_1 : Sl) (w : World) (K : Value → World → Prop) : Prop :=
 ∃ s2 : Sl, ∃ w3 : World, (Builtin.append_ #[T_sl_int, T_sl_int] T_sl_int #[.slice none 0 0, l_1.val]).run Tryz.prog w = .ok (s2.val) w3 ∧
 K (s2.val) w3
def hollowaybook_copyInts_an : An := ⟨[], [], []⟩
theorem hollowaybook_copyInts_lift {l_1 : Sl} {w : World} {K : Value → World → Prop} (h : hollowaybook_copyInts_sh l_1 w K) : Calls Tryz.prog fn_hollowaybook_copyInts #[l_1.val] w fun e w' => ∃ v, e = .returned v ∧ K v w' :=
   lift_calls (A := hollowaybook_copyInts_an) (c := bodyOf Tryz.f48) (args := [l_1.val]) orc orc_wide Tryz.func48 (by kernel_rfl) (by kernel_rfl) (Eq.mp (by kernel_rfl : hollowaybook_copyInts_sh l_1 w K = wpc orc Tryz.f48.ntmps hollowaybook_copyInts_an (bodyOf Tryz.f48) (argl 0 [l_1.val]) w (retQ orc Tryz.f48.results.toList K)) h)

def hollowaybook_Book_Ints_sh (b_1 : Nat) (l_2 : Sl) (w : World) (K : Value → World → Prop) : Prop :=
 ∃ s3 : Sl, w.cell? ⟨b_1, 2, none⟩ = some (s3.val) ∧
 brB (decide ((s3.len : Int) < (250 : Int)))
 (∃ s4 : Sl, w.cell? ⟨b_1, 2, none⟩ = some (s4.val) ∧
 ∀ (b5 : Nat) (w6 : World), b5 = w.heap.size → w6 = World.alloc w (.cells #[l_2.val] T_sl_int) →
 ∃ s7 : Sl, ∃ w8 : World, (Builtin.append_ #[T_sl_sl_int, T_sl_sl_int] T_sl_sl_int #[s4.val, .slice (some ⟨b5, 0, none⟩) 1 1]).run Tryz.prog w6 = .ok (s7.val) w8 ∧
 wrOk w8 ⟨b_1, 2, none⟩ 1 ∧ ∀ w9 : World, w9 = stW w8 ⟨b_1, 2, none⟩ 0 [s7.val] →
 ∀ w10 : World, w10 = World.drew w9 →
 ∃ S11 : World → Prop, S11 w10 ∧
 ∃ s12 : Sl, held S11 ⟨b_1, 3, none⟩ (s12.val) ∧
 Calls Tryz.prog fn_hollowaybook_copyInts #[l_2.val] w10 fun e13 w14 => ∃ s15 : Sl, e13 = .returned (s15.val) ∧
 S11 w14 ∧
 ∀ (b16 : Nat) (w17 : World), b16 = w14.heap.size → w17 = World.alloc w14 (.cells #[s15.val] T_sl_int) →
 S11 w17 ∧
 ∃ s18 : Sl, ∃ w19 : World, (Builtin.append_ #[T_sl_sl_int, T_sl_sl_int] T_sl_sl_int #[s12.val, .slice (some ⟨b16, 0, none⟩) 1 1]).run Tryz.prog w17 = .ok (s18.val) w19 ∧
 S11 w19 ∧
 wrOk w19 ⟨b_1, 3, none⟩ 1 ∧ ∀ w20 : World, w20 = stW w19 ⟨b_1, 3, none⟩ 0 [s18.val] →
 K (.tuple #[]) w20)
 (K (.tuple #[]) w)
def hollowaybook_Book_Ints_an : An := ⟨[], [(2, (9, .st 0 (.st 1 (.st 2 (.st 3 (.st 4 (.st 5 (.ef 6 (.ef 7 (.ef 8 .done)))))))), 1))], []⟩
theorem hollowaybook_Book_Ints_lift {b_1 : Nat} {l_2 : Sl} {w : World} {K : Value → World → Prop} (h : hollowaybook_Book_Ints_sh b_1 l_2 w K) : Calls Tryz.prog fn_hollowaybook_Book_Ints #[.pointer (some ⟨b_1, 0, none⟩), l_2.val] w fun e w' => ∃ v, e = .returned v ∧ K v w' :=
   lift_calls (A := hollowaybook_Book_Ints_an) (c := bodyOf Tryz.f54) (args := [.pointer (some ⟨b_1, 0, none⟩), l_2.val]) orc orc_wide Tryz.func54 (by kernel_rfl) (by kernel_rfl) (Eq.mp (by kernel_rfl : hollowaybook_Book_Ints_sh b_1 l_2 w K = wpc orc Tryz.f54.ntmps hollowaybook_Book_Ints_an (bodyOf Tryz.f54) (argl 0 [.pointer (some ⟨b_1, 0, none⟩), l_2.val]) w (retQ orc Tryz.f54.results.toList K)) h)

def hollowaybook_StaysCodes_sh (m_1 : Sl) (was2 : Sl) (w : World) (K : Value → World → Prop) : Prop :=
 Calls Tryz.prog fn_hollowaybook_SameCodes #[m_1.val, was2.val] w fun e3 w4 => ∃ b5 : Bool, e3 = .returned (.bool b5) ∧
 brB b5
 (0 ≤ (wr ((m_1.len : Int) + (1 : Int))) ∧ (wr ((m_1.len : Int) + (1 : Int))) ≤ (m_1.cap : Int) ∧ ∀ s6 : Sl, s6 = Sl.sub m_1.ptr m_1.cap 0 (Int.toNat (wr ((m_1.len : Int) + (1 : Int)))) 5 →
 ∃ a7 : Addr, s6.ptr = some a7 ∧ 0 ≤ (m_1.len : Int) ∧ (m_1.len : Int) < (s6.len : Int) ∧
 ∃ n8 : Int, w4.cell? (Addr.add a7 (Int.toNat (m_1.len : Int) * 5)) = some (.int .i64 n8) ∧
 K (.bool (n8 == (-77 : Int))) w4)
 (K (.bool false) w4)
def hollowaybook_StaysCodes_an : An := ⟨[], [], []⟩
theorem hollowaybook_StaysCodes_lift {m_1 : Sl} {was2 : Sl} {w : World} {K : Value → World → Prop} (h : hollowaybook_StaysCodes_sh m_1 was2 w K) : Calls Tryz.prog fn_hollowaybook_StaysCodes #[m_1.val, was2.val] w fun e w' => ∃ v, e = .returned v ∧ K v w' :=
   lift_calls (A := hollowaybook_StaysCodes_an) (c := bodyOf Tryz.f55) (args := [m_1.val, was2.val]) orc orc_wide Tryz.func55 (by kernel_rfl) (by kernel_rfl) (Eq.mp (by kernel_rfl : hollowaybook_StaysCodes_sh m_1 was2 w K = wpc orc Tryz.f55.ntmps hollowaybook_StaysCodes_an (bodyOf Tryz.f55) (argl 0 [m_1.val, was2.val]) w (retQ orc Tryz.f55.results.toList K)) h)

def hollowaybook_StaysExits_sh (m_1 : Sl) (was2 : Sl) (w : World) (K : Value → World → Prop) : Prop :=
 Calls Tryz.prog fn_hollowaybook_SameExits #[m_1.val, was2.val] w fun e3 w4 => ∃ b5 : Bool, e3 = .returned (.bool b5) ∧
 brB b5
 (0 ≤ (wr ((m_1.len : Int) + (1 : Int))) ∧ (wr ((m_1.len : Int) + (1 : Int))) ≤ (m_1.cap : Int) ∧ ∀ s6 : Sl, s6 = Sl.sub m_1.ptr m_1.cap 0 (Int.toNat (wr ((m_1.len : Int) + (1 : Int)))) 4 →
 ∃ a7 : Addr, s6.ptr = some a7 ∧ 0 ≤ (m_1.len : Int) ∧ (m_1.len : Int) < (s6.len : Int) ∧
 ∃ n8 : Int, w4.cell? (Addr.add a7 (Int.toNat (m_1.len : Int) * 4)) = some (.int .i64 n8) ∧
 K (.bool (n8 == (-77 : Int))) w4)
 (K (.bool false) w4)
def hollowaybook_StaysExits_an : An := ⟨[], [], []⟩
theorem hollowaybook_StaysExits_lift {m_1 : Sl} {was2 : Sl} {w : World} {K : Value → World → Prop} (h : hollowaybook_StaysExits_sh m_1 was2 w K) : Calls Tryz.prog fn_hollowaybook_StaysExits #[m_1.val, was2.val] w fun e w' => ∃ v, e = .returned v ∧ K v w' :=
   lift_calls (A := hollowaybook_StaysExits_an) (c := bodyOf Tryz.f56) (args := [m_1.val, was2.val]) orc orc_wide Tryz.func56 (by kernel_rfl) (by kernel_rfl) (Eq.mp (by kernel_rfl : hollowaybook_StaysExits_sh m_1 was2 w K = wpc orc Tryz.f56.ntmps hollowaybook_StaysExits_an (bodyOf Tryz.f56) (argl 0 [m_1.val, was2.val]) w (retQ orc Tryz.f56.results.toList K)) h)

def hollowaybook_Book_stillTexts_sh (b_1 : Nat) (w : World) (K : Value → World → Prop) : Prop :=
 ∃ (I1 : Int → World → Prop) (μ1 : Int → World → Nat), I1 (0 : Int) w ∧ ∀ (i3 : Int) (w2 : World), I1 i3 w2 →
 ∃ s4 : Sl, w2.cell? ⟨b_1, 0, none⟩ = some (s4.val) ∧
 brB (decide (i3 < (s4.len : Int)))
 (∀ w5 : World, w5 = World.drew w2 →
 ∃ s6 : Sl, held (Lw w5) ⟨b_1, 0, none⟩ (s6.val) ∧
 ∃ a7 : Addr, s6.ptr = some a7 ∧ 0 ≤ i3 ∧ i3 < (s6.len : Int) ∧
 ∃ s8 : Sl, held (Lw w5) (Addr.add a7 (Int.toNat i3 * 1)) (s8.val) ∧
 ∃ s9 : Sl, held (Lw w5) ⟨b_1, 1, none⟩ (s9.val) ∧
 ∃ a10 : Addr, s9.ptr = some a10 ∧ 0 ≤ i3 ∧ i3 < (s9.len : Int) ∧
 ∃ s11 : Sl, held (Lw w5) (Addr.add a10 (Int.toNat i3 * 1)) (s11.val) ∧
 Calls Tryz.prog fn_hollowaybook_SameTexts #[s8.val, s11.val] w5 fun e12 w13 => ∃ b14 : Bool, e12 = .returned (.bool b14) ∧
 brB (!b14)
 (K (.bool false) w13)
 (I1 (wr (i3 + (1 : Int))) w13 ∧ μ1 (wr (i3 + (1 : Int))) w13 < μ1 i3 w2))
 (K (.bool true) w2)
def hollowaybook_Book_stillTexts_an : An := ⟨[(2, [(3, .int .i64)])], [(4, (14, .st 0 (.st 1 (.st 2 (.st 3 (.st 4 (.st 5 (.st 6 (.st 7 (.st 8 (.st 9 (.st 10 (.st 11 (.st 12 (.st 13 .done))))))))))))), 0))], []⟩
theorem hollowaybook_Book_stillTexts_lift {b_1 : Nat} {w : World} {K : Value → World → Prop} (h : hollowaybook_Book_stillTexts_sh b_1 w K) : Calls Tryz.prog fn_hollowaybook_Book_stillTexts #[.pointer (some ⟨b_1, 0, none⟩)] w fun e w' => ∃ v, e = .returned v ∧ K v w' :=
   lift_calls (A := hollowaybook_Book_stillTexts_an) (c := bodyOf Tryz.f57) (args := [.pointer (some ⟨b_1, 0, none⟩)]) orc orc_wide Tryz.func57 (by kernel_rfl) (by kernel_rfl) (Eq.mp (by kernel_rfl : hollowaybook_Book_stillTexts_sh b_1 w K = wpc orc Tryz.f57.ntmps hollowaybook_Book_stillTexts_an (bodyOf Tryz.f57) (argl 0 [.pointer (some ⟨b_1, 0, none⟩)]) w (retQ orc Tryz.f57.results.toList K)) h)

def hollowaybook_Book_stillInts_sh (b_1 : Nat) (w : World) (K : Value → World → Prop) : Prop :=
 ∃ (I1 : Int → World → Prop) (μ1 : Int → World → Nat), I1 (0 : Int) w ∧ ∀ (i3 : Int) (w2 : World), I1 i3 w2 →
 ∃ s4 : Sl, w2.cell? ⟨b_1, 2, none⟩ = some (s4.val) ∧
 brB (decide (i3 < (s4.len : Int)))
 (∀ w5 : World, w5 = World.drew w2 →
 ∃ s6 : Sl, held (Lw w5) ⟨b_1, 2, none⟩ (s6.val) ∧
 ∃ a7 : Addr, s6.ptr = some a7 ∧ 0 ≤ i3 ∧ i3 < (s6.len : Int) ∧
 ∃ s8 : Sl, held (Lw w5) (Addr.add a7 (Int.toNat i3 * 1)) (s8.val) ∧
 ∃ s9 : Sl, held (Lw w5) ⟨b_1, 3, none⟩ (s9.val) ∧
 ∃ a10 : Addr, s9.ptr = some a10 ∧ 0 ≤ i3 ∧ i3 < (s9.len : Int) ∧
 ∃ s11 : Sl, held (Lw w5) (Addr.add a10 (Int.toNat i3 * 1)) (s11.val) ∧
 Calls Tryz.prog fn_hollowaybook_SameInts #[s8.val, s11.val] w5 fun e12 w13 => ∃ b14 : Bool, e12 = .returned (.bool b14) ∧
 brB (!b14)
 (K (.bool false) w13)
 (I1 (wr (i3 + (1 : Int))) w13 ∧ μ1 (wr (i3 + (1 : Int))) w13 < μ1 i3 w2))
 (K (.bool true) w2)
def hollowaybook_Book_stillInts_an : An := ⟨[(2, [(3, .int .i64)])], [(4, (14, .st 0 (.st 1 (.st 2 (.st 3 (.st 4 (.st 5 (.st 6 (.st 7 (.st 8 (.st 9 (.st 10 (.st 11 (.st 12 (.st 13 .done))))))))))))), 0))], []⟩
theorem hollowaybook_Book_stillInts_lift {b_1 : Nat} {w : World} {K : Value → World → Prop} (h : hollowaybook_Book_stillInts_sh b_1 w K) : Calls Tryz.prog fn_hollowaybook_Book_stillInts #[.pointer (some ⟨b_1, 0, none⟩)] w fun e w' => ∃ v, e = .returned v ∧ K v w' :=
   lift_calls (A := hollowaybook_Book_stillInts_an) (c := bodyOf Tryz.f58) (args := [.pointer (some ⟨b_1, 0, none⟩)]) orc orc_wide Tryz.func58 (by kernel_rfl) (by kernel_rfl) (Eq.mp (by kernel_rfl : hollowaybook_Book_stillInts_sh b_1 w K = wpc orc Tryz.f58.ntmps hollowaybook_Book_stillInts_an (bodyOf Tryz.f58) (argl 0 [.pointer (some ⟨b_1, 0, none⟩)]) w (retQ orc Tryz.f58.results.toList K)) h)

def hollowaybook_Book_stillWords_sh (b_1 : Nat) (w : World) (K : Value → World → Prop) : Prop :=
 ∃ (I1 : Int → World → Prop) (μ1 : Int → World → Nat), I1 (0 : Int) w ∧ ∀ (i3 : Int) (w2 : World), I1 i3 w2 →
 ∃ s4 : Sl, w2.cell? ⟨b_1, 4, none⟩ = some (s4.val) ∧
 brB (decide (i3 < (s4.len : Int)))
 (∀ w5 : World, w5 = World.drew w2 →
 ∃ s6 : Sl, held (Lw w5) ⟨b_1, 4, none⟩ (s6.val) ∧
 ∃ a7 : Addr, s6.ptr = some a7 ∧ 0 ≤ i3 ∧ i3 < (s6.len : Int) ∧
 ∃ s8 : Sl, held (Lw w5) (Addr.add a7 (Int.toNat i3 * 1)) (s8.val) ∧
 ∃ s9 : Sl, held (Lw w5) ⟨b_1, 5, none⟩ (s9.val) ∧
 ∃ a10 : Addr, s9.ptr = some a10 ∧ 0 ≤ i3 ∧ i3 < (s9.len : Int) ∧
 ∃ s11 : Sl, held (Lw w5) (Addr.add a10 (Int.toNat i3 * 1)) (s11.val) ∧
 Calls Tryz.prog fn_hollowaybook_SameWords #[s8.val, s11.val] w5 fun e12 w13 => ∃ b14 : Bool, e12 = .returned (.bool b14) ∧
 brB (!b14)
 (K (.bool false) w13)
 (I1 (wr (i3 + (1 : Int))) w13 ∧ μ1 (wr (i3 + (1 : Int))) w13 < μ1 i3 w2))
 (K (.bool true) w2)
def hollowaybook_Book_stillWords_an : An := ⟨[(2, [(3, .int .i64)])], [(4, (14, .st 0 (.st 1 (.st 2 (.st 3 (.st 4 (.st 5 (.st 6 (.st 7 (.st 8 (.st 9 (.st 10 (.st 11 (.st 12 (.st 13 .done))))))))))))), 0))], []⟩
theorem hollowaybook_Book_stillWords_lift {b_1 : Nat} {w : World} {K : Value → World → Prop} (h : hollowaybook_Book_stillWords_sh b_1 w K) : Calls Tryz.prog fn_hollowaybook_Book_stillWords #[.pointer (some ⟨b_1, 0, none⟩)] w fun e w' => ∃ v, e = .returned v ∧ K v w' :=
   lift_calls (A := hollowaybook_Book_stillWords_an) (c := bodyOf Tryz.f59) (args := [.pointer (some ⟨b_1, 0, none⟩)]) orc orc_wide Tryz.func59 (by kernel_rfl) (by kernel_rfl) (Eq.mp (by kernel_rfl : hollowaybook_Book_stillWords_sh b_1 w K = wpc orc Tryz.f59.ntmps hollowaybook_Book_stillWords_an (bodyOf Tryz.f59) (argl 0 [.pointer (some ⟨b_1, 0, none⟩)]) w (retQ orc Tryz.f59.results.toList K)) h)

def hollowaybook_Book_stillSeens_sh (b_1 : Nat) (w : World) (K : Value → World → Prop) : Prop :=
 ∃ (I1 : Int → World → Prop) (μ1 : Int → World → Nat), I1 (0 : Int) w ∧ ∀ (i3 : Int) (w2 : World), I1 i3 w2 →
 ∃ s4 : Sl, w2.cell? ⟨b_1, 6, none⟩ = some (s4.val) ∧
 brB (decide (i3 < (s4.len : Int)))
 (∀ w5 : World, w5 = World.drew w2 →
 ∃ s6 : Sl, held (Lw w5) ⟨b_1, 6, none⟩ (s6.val) ∧
 ∃ a7 : Addr, s6.ptr = some a7 ∧ 0 ≤ i3 ∧ i3 < (s6.len : Int) ∧
 ∃ s8 : Sl, held (Lw w5) (Addr.add a7 (Int.toNat i3 * 1)) (s8.val) ∧
 ∃ s9 : Sl, held (Lw w5) ⟨b_1, 7, none⟩ (s9.val) ∧
 ∃ a10 : Addr, s9.ptr = some a10 ∧ 0 ≤ i3 ∧ i3 < (s9.len : Int) ∧
 ∃ s11 : Sl, held (Lw w5) (Addr.add a10 (Int.toNat i3 * 1)) (s11.val) ∧
 Calls Tryz.prog fn_hollowaybook_SameSeens #[s8.val, s11.val] w5 fun e12 w13 => ∃ b14 : Bool, e12 = .returned (.bool b14) ∧
 brB (!b14)
 (K (.bool false) w13)
 (I1 (wr (i3 + (1 : Int))) w13 ∧ μ1 (wr (i3 + (1 : Int))) w13 < μ1 i3 w2))
 (K (.bool true) w2)
def hollowaybook_Book_stillSeens_an : An := ⟨[(2, [(3, .int .i64)])], [(4, (14, .st 0 (.st 1 (.st 2 (.st 3 (.st 4 (.st 5 (.st 6 (.st 7 (.st 8 (.st 9 (.st 10 (.st 11 (.st 12 (.st 13 .done))))))))))))), 0))], []⟩
theorem hollowaybook_Book_stillSeens_lift {b_1 : Nat} {w : World} {K : Value → World → Prop} (h : hollowaybook_Book_stillSeens_sh b_1 w K) : Calls Tryz.prog fn_hollowaybook_Book_stillSeens #[.pointer (some ⟨b_1, 0, none⟩)] w fun e w' => ∃ v, e = .returned v ∧ K v w' :=
   lift_calls (A := hollowaybook_Book_stillSeens_an) (c := bodyOf Tryz.f60) (args := [.pointer (some ⟨b_1, 0, none⟩)]) orc orc_wide Tryz.func60 (by kernel_rfl) (by kernel_rfl) (Eq.mp (by kernel_rfl : hollowaybook_Book_stillSeens_sh b_1 w K = wpc orc Tryz.f60.ntmps hollowaybook_Book_stillSeens_an (bodyOf Tryz.f60) (argl 0 [.pointer (some ⟨b_1, 0, none⟩)]) w (retQ orc Tryz.f60.results.toList K)) h)

def hollowaybook_Book_stillCodes_sh (b_1 : Nat) (w : World) (K : Value → World → Prop) : Prop :=
 ∃ (I1 : Int → World → Prop) (μ1 : Int → World → Nat), I1 (0 : Int) w ∧ ∀ (i3 : Int) (w2 : World), I1 i3 w2 →
 ∃ s4 : Sl, w2.cell? ⟨b_1, 8, none⟩ = some (s4.val) ∧
 brB (decide (i3 < (s4.len : Int)))
 (∀ w5 : World, w5 = World.drew w2 →
 ∃ s6 : Sl, held (Lw w5) ⟨b_1, 8, none⟩ (s6.val) ∧
 ∃ a7 : Addr, s6.ptr = some a7 ∧ 0 ≤ i3 ∧ i3 < (s6.len : Int) ∧
 ∃ s8 : Sl, held (Lw w5) (Addr.add a7 (Int.toNat i3 * 1)) (s8.val) ∧
 ∃ s9 : Sl, held (Lw w5) ⟨b_1, 9, none⟩ (s9.val) ∧
 ∃ a10 : Addr, s9.ptr = some a10 ∧ 0 ≤ i3 ∧ i3 < (s9.len : Int) ∧
 ∃ s11 : Sl, held (Lw w5) (Addr.add a10 (Int.toNat i3 * 1)) (s11.val) ∧
 Calls Tryz.prog fn_hollowaybook_SameCodes #[s8.val, s11.val] w5 fun e12 w13 => ∃ b14 : Bool, e12 = .returned (.bool b14) ∧
 brB (!b14)
 (K (.bool false) w13)
 (I1 (wr (i3 + (1 : Int))) w13 ∧ μ1 (wr (i3 + (1 : Int))) w13 < μ1 i3 w2))
 (K (.bool true) w2)
def hollowaybook_Book_stillCodes_an : An := ⟨[(2, [(3, .int .i64)])], [(4, (14, .st 0 (.st 1 (.st 2 (.st 3 (.st 4 (.st 5 (.st 6 (.st 7 (.st 8 (.st 9 (.st 10 (.st 11 (.st 12 (.st 13 .done))))))))))))), 0))], []⟩
theorem hollowaybook_Book_stillCodes_lift {b_1 : Nat} {w : World} {K : Value → World → Prop} (h : hollowaybook_Book_stillCodes_sh b_1 w K) : Calls Tryz.prog fn_hollowaybook_Book_stillCodes #[.pointer (some ⟨b_1, 0, none⟩)] w fun e w' => ∃ v, e = .returned v ∧ K v w' :=
   lift_calls (A := hollowaybook_Book_stillCodes_an) (c := bodyOf Tryz.f61) (args := [.pointer (some ⟨b_1, 0, none⟩)]) orc orc_wide Tryz.func61 (by kernel_rfl) (by kernel_rfl) (Eq.mp (by kernel_rfl : hollowaybook_Book_stillCodes_sh b_1 w K = wpc orc Tryz.f61.ntmps hollowaybook_Book_stillCodes_an (bodyOf Tryz.f61) (argl 0 [.pointer (some ⟨b_1, 0, none⟩)]) w (retQ orc Tryz.f61.results.toList K)) h)

def hollowaybook_Book_stillExits_sh (b_1 : Nat) (w : World) (K : Value → World → Prop) : Prop :=
 ∃ (I1 : Int → World → Prop) (μ1 : Int → World → Nat), I1 (0 : Int) w ∧ ∀ (i3 : Int) (w2 : World), I1 i3 w2 →
 ∃ s4 : Sl, w2.cell? ⟨b_1, 10, none⟩ = some (s4.val) ∧
 brB (decide (i3 < (s4.len : Int)))
 (∀ w5 : World, w5 = World.drew w2 →
 ∃ s6 : Sl, held (Lw w5) ⟨b_1, 10, none⟩ (s6.val) ∧
 ∃ a7 : Addr, s6.ptr = some a7 ∧ 0 ≤ i3 ∧ i3 < (s6.len : Int) ∧
 ∃ s8 : Sl, held (Lw w5) (Addr.add a7 (Int.toNat i3 * 1)) (s8.val) ∧
 ∃ s9 : Sl, held (Lw w5) ⟨b_1, 11, none⟩ (s9.val) ∧
 ∃ a10 : Addr, s9.ptr = some a10 ∧ 0 ≤ i3 ∧ i3 < (s9.len : Int) ∧
 ∃ s11 : Sl, held (Lw w5) (Addr.add a10 (Int.toNat i3 * 1)) (s11.val) ∧
 Calls Tryz.prog fn_hollowaybook_SameExits #[s8.val, s11.val] w5 fun e12 w13 => ∃ b14 : Bool, e12 = .returned (.bool b14) ∧
 brB (!b14)
 (K (.bool false) w13)
 (I1 (wr (i3 + (1 : Int))) w13 ∧ μ1 (wr (i3 + (1 : Int))) w13 < μ1 i3 w2))
 (K (.bool true) w2)
def hollowaybook_Book_stillExits_an : An := ⟨[(2, [(3, .int .i64)])], [(4, (14, .st 0 (.st 1 (.st 2 (.st 3 (.st 4 (.st 5 (.st 6 (.st 7 (.st 8 (.st 9 (.st 10 (.st 11 (.st 12 (.st 13 .done))))))))))))), 0))], []⟩
theorem hollowaybook_Book_stillExits_lift {b_1 : Nat} {w : World} {K : Value → World → Prop} (h : hollowaybook_Book_stillExits_sh b_1 w K) : Calls Tryz.prog fn_hollowaybook_Book_stillExits #[.pointer (some ⟨b_1, 0, none⟩)] w fun e w' => ∃ v, e = .returned v ∧ K v w' :=
   lift_calls (A := hollowaybook_Book_stillExits_an) (c := bodyOf Tryz.f62) (args := [.pointer (some ⟨b_1, 0, none⟩)]) orc orc_wide Tryz.func62 (by kernel_rfl) (by kernel_rfl) (Eq.mp (by kernel_rfl : hollowaybook_Book_stillExits_sh b_1 w K = wpc orc Tryz.f62.ntmps hollowaybook_Book_stillExits_an (bodyOf Tryz.f62) (argl 0 [.pointer (some ⟨b_1, 0, none⟩)]) w (retQ orc Tryz.f62.results.toList K)) h)

def hollowaybook_Book_putExits_sh (b_1 : Nat) (w : World) (K : Value → World → Prop) : Prop :=
 ∃ (I1 : Int → World → Prop) (μ1 : Int → World → Nat), I1 (0 : Int) w ∧ ∀ (i3 : Int) (w2 : World), I1 i3 w2 →
 ∃ s4 : Sl, w2.cell? ⟨b_1, 10, none⟩ = some (s4.val) ∧
 brB (decide (i3 < (s4.len : Int)))
 (∃ s5 : Sl, w2.cell? ⟨b_1, 10, none⟩ = some (s5.val) ∧
 ∃ a6 : Addr, s5.ptr = some a6 ∧ 0 ≤ i3 ∧ i3 < (s5.len : Int) ∧
 ∃ s7 : Sl, w2.cell? (Addr.add a6 (Int.toNat i3 * 1)) = some (s7.val) ∧
 Calls Tryz.prog fn_hollowaybook_markExits #[.int .i64 i3, .int .i64 (0 : Int), .int .i64 (s7.len : Int)] w2 fun e8 w9 => ∃ s10 : Sl, e8 = .returned (s10.val) ∧
 ∃ (I2 : Int → World → Prop) (μ2 : Int → World → Nat), I2 (0 : Int) w9 ∧ ∀ (k12 : Int) (w11 : World), I2 k12 w11 →
 brB (decide (k12 < (s10.len : Int)))
 (∀ w13 : World, w13 = World.drew w11 →
 ∃ s14 : Sl, held (Lw w13) ⟨b_1, 10, none⟩ (s14.val) ∧
 ∃ a15 : Addr, s14.ptr = some a15 ∧ 0 ≤ i3 ∧ i3 < (s14.len : Int) ∧
 ∃ s16 : Sl, held (Lw w13) (Addr.add a15 (Int.toNat i3 * 1)) (s16.val) ∧
 ∃ a17 : Addr, s10.ptr = some a17 ∧ 0 ≤ k12 ∧ k12 < (s10.len : Int) ∧
 ∃ n18 n19 : Int, ∃ s20 s21 : Sl, held (Lw w13) (Addr.add a17 (Int.toNat k12 * 4)) (.int .i64 n18) ∧ held (Lw w13) (Addr.add (Addr.add a17 (Int.toNat k12 * 4)) 1) (.int .i64 n19) ∧ held (Lw w13) (Addr.add (Addr.add a17 (Int.toNat k12 * 4)) 2) (s20.val) ∧ held (Lw w13) (Addr.add (Addr.add a17 (Int.toNat k12 * 4)) 3) (s21.val) ∧
 ∃ a22 : Addr, s16.ptr = some a22 ∧ 0 ≤ k12 ∧ k12 < (s16.len : Int) ∧
 wrOk w13 (Addr.add a22 (Int.toNat k12 * 4)) 4 ∧ ∀ w23 : World, w23 = stW w13 (Addr.add a22 (Int.toNat k12 * 4)) 0 [.int .i64 n18, .int .i64 n19, s20.val, s21.val] →
 I2 (wr (k12 + (1 : Int))) w23 ∧ μ2 (wr (k12 + (1 : Int))) w23 < μ2 k12 w11)
 (I1 (wr (i3 + (1 : Int))) w11 ∧ μ1 (wr (i3 + (1 : Int))) w11 < μ1 i3 w2))
 (K (.tuple #[]) w2)
def hollowaybook_Book_putExits_an : An := ⟨[(1, [(2, .int .i64)]), (5, [(4, .int .i64)])], [(7, (13, .st 0 (.st 1 (.st 2 (.st 3 (.st 4 (.st 5 (.st 6 (.st 7 (.st 8 (.st 9 (.st 10 (.st 11 (.st 12 .done)))))))))))), 0))], []⟩
theorem hollowaybook_Book_putExits_lift {b_1 : Nat} {w : World} {K : Value → World → Prop} (h : hollowaybook_Book_putExits_sh b_1 w K) : Calls Tryz.prog fn_hollowaybook_Book_putExits #[.pointer (some ⟨b_1, 0, none⟩)] w fun e w' => ∃ v, e = .returned v ∧ K v w' :=
   lift_calls (A := hollowaybook_Book_putExits_an) (c := bodyOf Tryz.f63) (args := [.pointer (some ⟨b_1, 0, none⟩)]) orc orc_wide Tryz.func63 (by kernel_rfl) (by kernel_rfl) (Eq.mp (by kernel_rfl : hollowaybook_Book_putExits_sh b_1 w K = wpc orc Tryz.f63.ntmps hollowaybook_Book_putExits_an (bodyOf Tryz.f63) (argl 0 [.pointer (some ⟨b_1, 0, none⟩)]) w (retQ orc Tryz.f63.results.toList K)) h)

def hollowaybook_Book_putTexts_sh (b_1 : Nat) (w : World) (K : Value → World → Prop) : Prop :=
 ∃ (I1 : Int → World → Prop) (μ1 : Int → World → Nat), I1 (0 : Int) w ∧ ∀ (i3 : Int) (w2 : World), I1 i3 w2 →
 ∃ s4 : Sl, w2.cell? ⟨b_1, 0, none⟩ = some (s4.val) ∧
 brB (decide (i3 < (s4.len : Int)))
 (∃ s5 : Sl, w2.cell? ⟨b_1, 0, none⟩ = some (s5.val) ∧
 ∃ a6 : Addr, s5.ptr = some a6 ∧ 0 ≤ i3 ∧ i3 < (s5.len : Int) ∧
 ∃ s7 : Sl, w2.cell? (Addr.add a6 (Int.toNat i3 * 1)) = some (s7.val) ∧
 Calls Tryz.prog fn_hollowaybook_markTexts #[.int .i64 i3, .int .i64 (0 : Int), .int .i64 (s7.len : Int)] w2 fun e8 w9 => ∃ s10 : Sl, e8 = .returned (s10.val) ∧
 ∃ (I2 : Int → World → Prop) (μ2 : Int → World → Nat), I2 (0 : Int) w9 ∧ ∀ (k12 : Int) (w11 : World), I2 k12 w11 →
 brB (decide (k12 < (s10.len : Int)))
 (∀ w13 : World, w13 = World.drew w11 →
 ∃ s14 : Sl, held (Lw w13) ⟨b_1, 0, none⟩ (s14.val) ∧
 ∃ a15 : Addr, s14.ptr = some a15 ∧ 0 ≤ i3 ∧ i3 < (s14.len : Int) ∧
 ∃ s16 : Sl, held (Lw w13) (Addr.add a15 (Int.toNat i3 * 1)) (s16.val) ∧
 ∃ a17 : Addr, s10.ptr = some a17 ∧ 0 ≤ k12 ∧ k12 < (s10.len : Int) ∧
 ∃ t18 : ByteArray, held (Lw w13) (Addr.add a17 (Int.toNat k12 * 1)) (.string t18) ∧
 ∃ a19 : Addr, s16.ptr = some a19 ∧ 0 ≤ k12 ∧ k12 < (s16.len : Int) ∧
 wrOk w13 (Addr.add a19 (Int.toNat k12 * 1)) 1 ∧ ∀ w20 : World, w20 = stW w13 (Addr.add a19 (Int.toNat k12 * 1)) 0 [.string t18] →
 I2 (wr (k12 + (1 : Int))) w20 ∧ μ2 (wr (k12 + (1 : Int))) w20 < μ2 k12 w11)
 (I1 (wr (i3 + (1 : Int))) w11 ∧ μ1 (wr (i3 + (1 : Int))) w11 < μ1 i3 w2))
 (K (.tuple #[]) w2)
def hollowaybook_Book_putTexts_an : An := ⟨[(1, [(2, .int .i64)]), (5, [(4, .int .i64)])], [(7, (13, .st 0 (.st 1 (.st 2 (.st 3 (.st 4 (.st 5 (.st 6 (.st 7 (.st 8 (.st 9 (.st 10 (.st 11 (.st 12 .done)))))))))))), 0))], []⟩
theorem hollowaybook_Book_putTexts_lift {b_1 : Nat} {w : World} {K : Value → World → Prop} (h : hollowaybook_Book_putTexts_sh b_1 w K) : Calls Tryz.prog fn_hollowaybook_Book_putTexts #[.pointer (some ⟨b_1, 0, none⟩)] w fun e w' => ∃ v, e = .returned v ∧ K v w' :=
   lift_calls (A := hollowaybook_Book_putTexts_an) (c := bodyOf Tryz.f64) (args := [.pointer (some ⟨b_1, 0, none⟩)]) orc orc_wide Tryz.func64 (by kernel_rfl) (by kernel_rfl) (Eq.mp (by kernel_rfl : hollowaybook_Book_putTexts_sh b_1 w K = wpc orc Tryz.f64.ntmps hollowaybook_Book_putTexts_an (bodyOf Tryz.f64) (argl 0 [.pointer (some ⟨b_1, 0, none⟩)]) w (retQ orc Tryz.f64.results.toList K)) h)

def hollowaybook_Book_putInts_sh (b_1 : Nat) (w : World) (K : Value → World → Prop) : Prop :=
 ∃ (I1 : Int → World → Prop) (μ1 : Int → World → Nat), I1 (0 : Int) w ∧ ∀ (i3 : Int) (w2 : World), I1 i3 w2 →
 ∃ s4 : Sl, w2.cell? ⟨b_1, 2, none⟩ = some (s4.val) ∧
 brB (decide (i3 < (s4.len : Int)))
 (∃ s5 : Sl, w2.cell? ⟨b_1, 2, none⟩ = some (s5.val) ∧
 ∃ a6 : Addr, s5.ptr = some a6 ∧ 0 ≤ i3 ∧ i3 < (s5.len : Int) ∧
 ∃ s7 : Sl, w2.cell? (Addr.add a6 (Int.toNat i3 * 1)) = some (s7.val) ∧
 Calls Tryz.prog fn_hollowaybook_markInts #[.int .i64 i3, .int .i64 (0 : Int), .int .i64 (s7.len : Int)] w2 fun e8 w9 => ∃ s10 : Sl, e8 = .returned (s10.val) ∧
 ∃ (I2 : Int → World → Prop) (μ2 : Int → World → Nat), I2 (0 : Int) w9 ∧ ∀ (k12 : Int) (w11 : World), I2 k12 w11 →
 brB (decide (k12 < (s10.len : Int)))
 (∀ w13 : World, w13 = World.drew w11 →
 ∃ s14 : Sl, held (Lw w13) ⟨b_1, 2, none⟩ (s14.val) ∧
 ∃ a15 : Addr, s14.ptr = some a15 ∧ 0 ≤ i3 ∧ i3 < (s14.len : Int) ∧
 ∃ s16 : Sl, held (Lw w13) (Addr.add a15 (Int.toNat i3 * 1)) (s16.val) ∧
 ∃ a17 : Addr, s10.ptr = some a17 ∧ 0 ≤ k12 ∧ k12 < (s10.len : Int) ∧
 ∃ n18 : Int, held (Lw w13) (Addr.add a17 (Int.toNat k12 * 1)) (.int .i64 n18) ∧
 ∃ a19 : Addr, s16.ptr = some a19 ∧ 0 ≤ k12 ∧ k12 < (s16.len : Int) ∧
 wrOk w13 (Addr.add a19 (Int.toNat k12 * 1)) 1 ∧ ∀ w20 : World, w20 = stW w13 (Addr.add a19 (Int.toNat k12 * 1)) 0 [.int .i64 n18] →
 I2 (wr (k12 + (1 : Int))) w20 ∧ μ2 (wr (k12 + (1 : Int))) w20 < μ2 k12 w11)
 (I1 (wr (i3 + (1 : Int))) w11 ∧ μ1 (wr (i3 + (1 : Int))) w11 < μ1 i3 w2))
 (K (.tuple #[]) w2)
def hollowaybook_Book_putInts_an : An := ⟨[(1, [(2, .int .i64)]), (5, [(4, .int .i64)])], [(7, (13, .st 0 (.st 1 (.st 2 (.st 3 (.st 4 (.st 5 (.st 6 (.st 7 (.st 8 (.st 9 (.st 10 (.st 11 (.st 12 .done)))))))))))), 0))], []⟩
theorem hollowaybook_Book_putInts_lift {b_1 : Nat} {w : World} {K : Value → World → Prop} (h : hollowaybook_Book_putInts_sh b_1 w K) : Calls Tryz.prog fn_hollowaybook_Book_putInts #[.pointer (some ⟨b_1, 0, none⟩)] w fun e w' => ∃ v, e = .returned v ∧ K v w' :=
   lift_calls (A := hollowaybook_Book_putInts_an) (c := bodyOf Tryz.f65) (args := [.pointer (some ⟨b_1, 0, none⟩)]) orc orc_wide Tryz.func65 (by kernel_rfl) (by kernel_rfl) (Eq.mp (by kernel_rfl : hollowaybook_Book_putInts_sh b_1 w K = wpc orc Tryz.f65.ntmps hollowaybook_Book_putInts_an (bodyOf Tryz.f65) (argl 0 [.pointer (some ⟨b_1, 0, none⟩)]) w (retQ orc Tryz.f65.results.toList K)) h)

def hollowaybook_Book_putWords_sh (b_1 : Nat) (w : World) (K : Value → World → Prop) : Prop :=
 ∃ (I1 : Int → World → Prop) (μ1 : Int → World → Nat), I1 (0 : Int) w ∧ ∀ (i3 : Int) (w2 : World), I1 i3 w2 →
 ∃ s4 : Sl, w2.cell? ⟨b_1, 4, none⟩ = some (s4.val) ∧
 brB (decide (i3 < (s4.len : Int)))
 (∃ s5 : Sl, w2.cell? ⟨b_1, 4, none⟩ = some (s5.val) ∧
 ∃ a6 : Addr, s5.ptr = some a6 ∧ 0 ≤ i3 ∧ i3 < (s5.len : Int) ∧
 ∃ s7 : Sl, w2.cell? (Addr.add a6 (Int.toNat i3 * 1)) = some (s7.val) ∧
 Calls Tryz.prog fn_hollowaybook_markWords #[.int .i64 i3, .int .i64 (0 : Int), .int .i64 (s7.len : Int)] w2 fun e8 w9 => ∃ s10 : Sl, e8 = .returned (s10.val) ∧
 ∃ (I2 : Int → World → Prop) (μ2 : Int → World → Nat), I2 (0 : Int) w9 ∧ ∀ (k12 : Int) (w11 : World), I2 k12 w11 →
 brB (decide (k12 < (s10.len : Int)))
 (∀ w13 : World, w13 = World.drew w11 →
 ∃ s14 : Sl, held (Lw w13) ⟨b_1, 4, none⟩ (s14.val) ∧
 ∃ a15 : Addr, s14.ptr = some a15 ∧ 0 ≤ i3 ∧ i3 < (s14.len : Int) ∧
 ∃ s16 : Sl, held (Lw w13) (Addr.add a15 (Int.toNat i3 * 1)) (s16.val) ∧
 ∃ a17 : Addr, s10.ptr = some a17 ∧ 0 ≤ k12 ∧ k12 < (s10.len : Int) ∧
 ∃ t18 : ByteArray, ∃ n19 n20 : Int, ∃ b21 : Bool, held (Lw w13) (Addr.add a17 (Int.toNat k12 * 4)) (.string t18) ∧ held (Lw w13) (Addr.add (Addr.add a17 (Int.toNat k12 * 4)) 1) (.int .i64 n19) ∧ held (Lw w13) (Addr.add (Addr.add a17 (Int.toNat k12 * 4)) 2) (.int .i64 n20) ∧ held (Lw w13) (Addr.add (Addr.add a17 (Int.toNat k12 * 4)) 3) (.bool b21) ∧
 ∃ a22 : Addr, s16.ptr = some a22 ∧ 0 ≤ k12 ∧ k12 < (s16.len : Int) ∧
 wrOk w13 (Addr.add a22 (Int.toNat k12 * 4)) 4 ∧ ∀ w23 : World, w23 = stW w13 (Addr.add a22 (Int.toNat k12 * 4)) 0 [.string t18, .int .i64 n19, .int .i64 n20, .bool b21] →
 I2 (wr (k12 + (1 : Int))) w23 ∧ μ2 (wr (k12 + (1 : Int))) w23 < μ2 k12 w11)
 (I1 (wr (i3 + (1 : Int))) w11 ∧ μ1 (wr (i3 + (1 : Int))) w11 < μ1 i3 w2))
 (K (.tuple #[]) w2)
def hollowaybook_Book_putWords_an : An := ⟨[(1, [(2, .int .i64)]), (5, [(4, .int .i64)])], [(7, (13, .st 0 (.st 1 (.st 2 (.st 3 (.st 4 (.st 5 (.st 6 (.st 7 (.st 8 (.st 9 (.st 10 (.st 11 (.st 12 .done)))))))))))), 0))], []⟩
theorem hollowaybook_Book_putWords_lift {b_1 : Nat} {w : World} {K : Value → World → Prop} (h : hollowaybook_Book_putWords_sh b_1 w K) : Calls Tryz.prog fn_hollowaybook_Book_putWords #[.pointer (some ⟨b_1, 0, none⟩)] w fun e w' => ∃ v, e = .returned v ∧ K v w' :=
   lift_calls (A := hollowaybook_Book_putWords_an) (c := bodyOf Tryz.f66) (args := [.pointer (some ⟨b_1, 0, none⟩)]) orc orc_wide Tryz.func66 (by kernel_rfl) (by kernel_rfl) (Eq.mp (by kernel_rfl : hollowaybook_Book_putWords_sh b_1 w K = wpc orc Tryz.f66.ntmps hollowaybook_Book_putWords_an (bodyOf Tryz.f66) (argl 0 [.pointer (some ⟨b_1, 0, none⟩)]) w (retQ orc Tryz.f66.results.toList K)) h)

def hollowaybook_Book_putSeens_sh (b_1 : Nat) (w : World) (K : Value → World → Prop) : Prop :=
 ∃ (I1 : Int → World → Prop) (μ1 : Int → World → Nat), I1 (0 : Int) w ∧ ∀ (i3 : Int) (w2 : World), I1 i3 w2 →
 ∃ s4 : Sl, w2.cell? ⟨b_1, 6, none⟩ = some (s4.val) ∧
 brB (decide (i3 < (s4.len : Int)))
 (∃ s5 : Sl, w2.cell? ⟨b_1, 6, none⟩ = some (s5.val) ∧
 ∃ a6 : Addr, s5.ptr = some a6 ∧ 0 ≤ i3 ∧ i3 < (s5.len : Int) ∧
 ∃ s7 : Sl, w2.cell? (Addr.add a6 (Int.toNat i3 * 1)) = some (s7.val) ∧
 Calls Tryz.prog fn_hollowaybook_markSeens #[.int .i64 i3, .int .i64 (0 : Int), .int .i64 (s7.len : Int)] w2 fun e8 w9 => ∃ s10 : Sl, e8 = .returned (s10.val) ∧
 ∃ (I2 : Int → World → Prop) (μ2 : Int → World → Nat), I2 (0 : Int) w9 ∧ ∀ (k12 : Int) (w11 : World), I2 k12 w11 →
 brB (decide (k12 < (s10.len : Int)))
 (∀ w13 : World, w13 = World.drew w11 →
 ∃ s14 : Sl, held (Lw w13) ⟨b_1, 6, none⟩ (s14.val) ∧
 ∃ a15 : Addr, s14.ptr = some a15 ∧ 0 ≤ i3 ∧ i3 < (s14.len : Int) ∧
 ∃ s16 : Sl, held (Lw w13) (Addr.add a15 (Int.toNat i3 * 1)) (s16.val) ∧
 ∃ a17 : Addr, s10.ptr = some a17 ∧ 0 ≤ k12 ∧ k12 < (s10.len : Int) ∧
 ∃ n18 n19 : Int, ∃ n20 n21 : Int, held (Lw w13) (Addr.add a17 (Int.toNat k12 * 4)) (.int .i64 n18) ∧ held (Lw w13) (Addr.add (Addr.add a17 (Int.toNat k12 * 4)) 1) (.int .i64 n19) ∧ held (Lw w13) (Addr.add (Addr.add a17 (Int.toNat k12 * 4)) 2) (.int .i64 n20) ∧ held (Lw w13) (Addr.add (Addr.add a17 (Int.toNat k12 * 4)) 3) (.int .i64 n21) ∧
 ∃ a22 : Addr, s16.ptr = some a22 ∧ 0 ≤ k12 ∧ k12 < (s16.len : Int) ∧
 wrOk w13 (Addr.add a22 (Int.toNat k12 * 4)) 4 ∧ ∀ w23 : World, w23 = stW w13 (Addr.add a22 (Int.toNat k12 * 4)) 0 [.int .i64 n18, .int .i64 n19, .int .i64 n20, .int .i64 n21] →
 I2 (wr (k12 + (1 : Int))) w23 ∧ μ2 (wr (k12 + (1 : Int))) w23 < μ2 k12 w11)
 (I1 (wr (i3 + (1 : Int))) w11 ∧ μ1 (wr (i3 + (1 : Int))) w11 < μ1 i3 w2))
 (K (.tuple #[]) w2)
def hollowaybook_Book_putSeens_an : An := ⟨[(1, [(2, .int .i64)]), (5, [(4, .int .i64)])], [(7, (13, .st 0 (.st 1 (.st 2 (.st 3 (.st 4 (.st 5 (.st 6 (.st 7 (.st 8 (.st 9 (.st 10 (.st 11 (.st 12 .done)))))))))))), 0))], []⟩
theorem hollowaybook_Book_putSeens_lift {b_1 : Nat} {w : World} {K : Value → World → Prop} (h : hollowaybook_Book_putSeens_sh b_1 w K) : Calls Tryz.prog fn_hollowaybook_Book_putSeens #[.pointer (some ⟨b_1, 0, none⟩)] w fun e w' => ∃ v, e = .returned v ∧ K v w' :=
   lift_calls (A := hollowaybook_Book_putSeens_an) (c := bodyOf Tryz.f67) (args := [.pointer (some ⟨b_1, 0, none⟩)]) orc orc_wide Tryz.func67 (by kernel_rfl) (by kernel_rfl) (Eq.mp (by kernel_rfl : hollowaybook_Book_putSeens_sh b_1 w K = wpc orc Tryz.f67.ntmps hollowaybook_Book_putSeens_an (bodyOf Tryz.f67) (argl 0 [.pointer (some ⟨b_1, 0, none⟩)]) w (retQ orc Tryz.f67.results.toList K)) h)

def hollowaybook_Book_putCodes_sh (b_1 : Nat) (w : World) (K : Value → World → Prop) : Prop :=
 ∃ (I1 : Int → World → Prop) (μ1 : Int → World → Nat), I1 (0 : Int) w ∧ ∀ (i3 : Int) (w2 : World), I1 i3 w2 →
 ∃ s4 : Sl, w2.cell? ⟨b_1, 8, none⟩ = some (s4.val) ∧
 brB (decide (i3 < (s4.len : Int)))
 (∃ s5 : Sl, w2.cell? ⟨b_1, 8, none⟩ = some (s5.val) ∧
 ∃ a6 : Addr, s5.ptr = some a6 ∧ 0 ≤ i3 ∧ i3 < (s5.len : Int) ∧
 ∃ s7 : Sl, w2.cell? (Addr.add a6 (Int.toNat i3 * 1)) = some (s7.val) ∧
 Calls Tryz.prog fn_hollowaybook_markCodes #[.int .i64 i3, .int .i64 (0 : Int), .int .i64 (s7.len : Int)] w2 fun e8 w9 => ∃ s10 : Sl, e8 = .returned (s10.val) ∧
 ∃ (I2 : Int → World → Prop) (μ2 : Int → World → Nat), I2 (0 : Int) w9 ∧ ∀ (k12 : Int) (w11 : World), I2 k12 w11 →
 brB (decide (k12 < (s10.len : Int)))
 (∀ w13 : World, w13 = World.drew w11 →
 ∃ s14 : Sl, held (Lw w13) ⟨b_1, 8, none⟩ (s14.val) ∧
 ∃ a15 : Addr, s14.ptr = some a15 ∧ 0 ≤ i3 ∧ i3 < (s14.len : Int) ∧
 ∃ s16 : Sl, held (Lw w13) (Addr.add a15 (Int.toNat i3 * 1)) (s16.val) ∧
 ∃ a17 : Addr, s10.ptr = some a17 ∧ 0 ≤ k12 ∧ k12 < (s10.len : Int) ∧
 ∃ n18 n19 : Int, ∃ n20 n21 n22 : Int, held (Lw w13) (Addr.add a17 (Int.toNat k12 * 5)) (.int .i64 n18) ∧ held (Lw w13) (Addr.add (Addr.add a17 (Int.toNat k12 * 5)) 1) (.int .i64 n19) ∧ held (Lw w13) (Addr.add (Addr.add a17 (Int.toNat k12 * 5)) 2) (.int .i64 n20) ∧ held (Lw w13) (Addr.add (Addr.add a17 (Int.toNat k12 * 5)) 3) (.int .i64 n21) ∧ held (Lw w13) (Addr.add (Addr.add a17 (Int.toNat k12 * 5)) 4) (.int .i64 n22) ∧
 ∃ a23 : Addr, s16.ptr = some a23 ∧ 0 ≤ k12 ∧ k12 < (s16.len : Int) ∧
 wrOk w13 (Addr.add a23 (Int.toNat k12 * 5)) 5 ∧ ∀ w24 : World, w24 = stW w13 (Addr.add a23 (Int.toNat k12 * 5)) 0 [.int .i64 n18, .int .i64 n19, .int .i64 n20, .int .i64 n21, .int .i64 n22] →
 I2 (wr (k12 + (1 : Int))) w24 ∧ μ2 (wr (k12 + (1 : Int))) w24 < μ2 k12 w11)
 (I1 (wr (i3 + (1 : Int))) w11 ∧ μ1 (wr (i3 + (1 : Int))) w11 < μ1 i3 w2))
 (K (.tuple #[]) w2)
def hollowaybook_Book_putCodes_an : An := ⟨[(1, [(2, .int .i64)]), (5, [(4, .int .i64)])], [(7, (13, .st 0 (.st 1 (.st 2 (.st 3 (.st 4 (.st 5 (.st 6 (.st 7 (.st 8 (.st 9 (.st 10 (.st 11 (.st 12 .done)))))))))))), 0))], []⟩
theorem hollowaybook_Book_putCodes_lift {b_1 : Nat} {w : World} {K : Value → World → Prop} (h : hollowaybook_Book_putCodes_sh b_1 w K) : Calls Tryz.prog fn_hollowaybook_Book_putCodes #[.pointer (some ⟨b_1, 0, none⟩)] w fun e w' => ∃ v, e = .returned v ∧ K v w' :=
   lift_calls (A := hollowaybook_Book_putCodes_an) (c := bodyOf Tryz.f68) (args := [.pointer (some ⟨b_1, 0, none⟩)]) orc orc_wide Tryz.func68 (by kernel_rfl) (by kernel_rfl) (Eq.mp (by kernel_rfl : hollowaybook_Book_putCodes_sh b_1 w K = wpc orc Tryz.f68.ntmps hollowaybook_Book_putCodes_an (bodyOf Tryz.f68) (argl 0 [.pointer (some ⟨b_1, 0, none⟩)]) w (retQ orc Tryz.f68.results.toList K)) h)

def hollowaybook_Book_growTexts_sh (b_1 : Nat) (w : World) (K : Value → World → Prop) : Prop :=
 ∃ (I1 : Sl → Int → World → Prop) (μ1 : Sl → Int → World → Nat), I1 (⟨none, 0, 0⟩ : Sl) (0 : Int) w ∧ ∀ (out16 : Sl) (i3 : Int) (w2 : World), I1 out16 i3 w2 →
 ∃ s4 : Sl, w2.cell? ⟨b_1, 0, none⟩ = some (s4.val) ∧
 brB (decide (i3 < (s4.len : Int)))
 (∃ s5 : Sl, w2.cell? ⟨b_1, 0, none⟩ = some (s5.val) ∧
 ∃ a6 : Addr, s5.ptr = some a6 ∧ 0 ≤ i3 ∧ i3 < (s5.len : Int) ∧
 ∃ s7 : Sl, w2.cell? (Addr.add a6 (Int.toNat i3 * 1)) = some (s7.val) ∧
 ∃ (I2 : Sl → Int → World → Prop) (μ2 : Sl → Int → World → Nat), I2 s7 (0 : Int) w2 ∧ ∀ (l10 : Sl) (n9 : Int) (w8 : World), I2 l10 n9 w8 →
 brB (decide (n9 < (12 : Int)))
 (Calls Tryz.prog fn_hollowaybook_markTexts #[.int .i64 i3, .int .i64 (l10.len : Int), .int .i64 (1 : Int)] w8 fun e11 w12 => ∃ s13 : Sl, e11 = .returned (s13.val) ∧
 ∃ s14 : Sl, ∃ w15 : World, (Builtin.append_ #[T_sl_string, T_sl_string] T_sl_string #[l10.val, s13.val]).run Tryz.prog w12 = .ok (s14.val) w15 ∧
 I2 s14 (wr (n9 + (1 : Int))) w15 ∧ μ2 s14 (wr (n9 + (1 : Int))) w15 < μ2 l10 n9 w8)
 (Calls Tryz.prog fn_hollowaybook_markTexts #[.int .i64 i3, .int .i64 (l10.len : Int), .int .i64 (60 : Int)] w8 fun e17 w18 => ∃ s19 : Sl, e17 = .returned (s19.val) ∧
 ∃ s20 : Sl, ∃ w21 : World, (Builtin.append_ #[T_sl_string, T_sl_string] T_sl_string #[l10.val, s19.val]).run Tryz.prog w18 = .ok (s20.val) w21 ∧
 ∀ (b22 : Nat) (w23 : World), b22 = w21.heap.size → w23 = World.alloc w21 (.cells #[s20.val] T_sl_string) →
 ∃ s24 : Sl, ∃ w25 : World, (Builtin.append_ #[T_sl_sl_string, T_sl_sl_string] T_sl_sl_string #[out16.val, .slice (some ⟨b22, 0, none⟩) 1 1]).run Tryz.prog w23 = .ok (s24.val) w25 ∧
 I1 s24 (wr (i3 + (1 : Int))) w25 ∧ μ1 s24 (wr (i3 + (1 : Int))) w25 < μ1 out16 i3 w2))
 (K (out16.val) w2)
def hollowaybook_Book_growTexts_an : An := ⟨[(3, [(3, .sl), (4, .int .i64)]), (7, [(5, .sl), (6, .int .i64)])], [], []⟩
theorem hollowaybook_Book_growTexts_lift {b_1 : Nat} {w : World} {K : Value → World → Prop} (h : hollowaybook_Book_growTexts_sh b_1 w K) : Calls Tryz.prog fn_hollowaybook_Book_growTexts #[.pointer (some ⟨b_1, 0, none⟩)] w fun e w' => ∃ v, e = .returned v ∧ K v w' :=
   lift_calls (A := hollowaybook_Book_growTexts_an) (c := bodyOf Tryz.f69) (args := [.pointer (some ⟨b_1, 0, none⟩)]) orc orc_wide Tryz.func69 (by kernel_rfl) (by kernel_rfl) (Eq.mp (by kernel_rfl : hollowaybook_Book_growTexts_sh b_1 w K = wpc orc Tryz.f69.ntmps hollowaybook_Book_growTexts_an (bodyOf Tryz.f69) (argl 0 [.pointer (some ⟨b_1, 0, none⟩)]) w (retQ orc Tryz.f69.results.toList K)) h)

def hollowaybook_Book_growInts_sh (b_1 : Nat) (w : World) (K : Value → World → Prop) : Prop :=
 ∃ (I1 : Sl → Int → World → Prop) (μ1 : Sl → Int → World → Nat), I1 (⟨none, 0, 0⟩ : Sl) (0 : Int) w ∧ ∀ (out16 : Sl) (i3 : Int) (w2 : World), I1 out16 i3 w2 →
 ∃ s4 : Sl, w2.cell? ⟨b_1, 2, none⟩ = some (s4.val) ∧
 brB (decide (i3 < (s4.len : Int)))
 (∃ s5 : Sl, w2.cell? ⟨b_1, 2, none⟩ = some (s5.val) ∧
 ∃ a6 : Addr, s5.ptr = some a6 ∧ 0 ≤ i3 ∧ i3 < (s5.len : Int) ∧
 ∃ s7 : Sl, w2.cell? (Addr.add a6 (Int.toNat i3 * 1)) = some (s7.val) ∧
 ∃ (I2 : Sl → Int → World → Prop) (μ2 : Sl → Int → World → Nat), I2 s7 (0 : Int) w2 ∧ ∀ (l10 : Sl) (n9 : Int) (w8 : World), I2 l10 n9 w8 →
 brB (decide (n9 < (12 : Int)))
 (Calls Tryz.prog fn_hollowaybook_markInts #[.int .i64 i3, .int .i64 (l10.len : Int), .int .i64 (1 : Int)] w8 fun e11 w12 => ∃ s13 : Sl, e11 = .returned (s13.val) ∧
 ∃ s14 : Sl, ∃ w15 : World, (Builtin.append_ #[T_sl_int, T_sl_int] T_sl_int #[l10.val, s13.val]).run Tryz.prog w12 = .ok (s14.val) w15 ∧
 I2 s14 (wr (n9 + (1 : Int))) w15 ∧ μ2 s14 (wr (n9 + (1 : Int))) w15 < μ2 l10 n9 w8)
 (Calls Tryz.prog fn_hollowaybook_markInts #[.int .i64 i3, .int .i64 (l10.len : Int), .int .i64 (60 : Int)] w8 fun e17 w18 => ∃ s19 : Sl, e17 = .returned (s19.val) ∧
 ∃ s20 : Sl, ∃ w21 : World, (Builtin.append_ #[T_sl_int, T_sl_int] T_sl_int #[l10.val, s19.val]).run Tryz.prog w18 = .ok (s20.val) w21 ∧
 ∀ (b22 : Nat) (w23 : World), b22 = w21.heap.size → w23 = World.alloc w21 (.cells #[s20.val] T_sl_int) →
 ∃ s24 : Sl, ∃ w25 : World, (Builtin.append_ #[T_sl_sl_int, T_sl_sl_int] T_sl_sl_int #[out16.val, .slice (some ⟨b22, 0, none⟩) 1 1]).run Tryz.prog w23 = .ok (s24.val) w25 ∧
 I1 s24 (wr (i3 + (1 : Int))) w25 ∧ μ1 s24 (wr (i3 + (1 : Int))) w25 < μ1 out16 i3 w2))
 (K (out16.val) w2)
def hollowaybook_Book_growInts_an : An := ⟨[(3, [(3, .sl), (4, .int .i64)]), (7, [(5, .sl), (6, .int .i64)])], [], []⟩
theorem hollowaybook_Book_growInts_lift {b_1 : Nat} {w : World} {K : Value → World → Prop} (h : hollowaybook_Book_growInts_sh b_1 w K) : Calls Tryz.prog fn_hollowaybook_Book_growInts #[.pointer (some ⟨b_1, 0, none⟩)] w fun e w' => ∃ v, e = .returned v ∧ K v w' :=
   lift_calls (A := hollowaybook_Book_growInts_an) (c := bodyOf Tryz.f70) (args := [.pointer (some ⟨b_1, 0, none⟩)]) orc orc_wide Tryz.func70 (by kernel_rfl) (by kernel_rfl) (Eq.mp (by kernel_rfl : hollowaybook_Book_growInts_sh b_1 w K = wpc orc Tryz.f70.ntmps hollowaybook_Book_growInts_an (bodyOf Tryz.f70) (argl 0 [.pointer (some ⟨b_1, 0, none⟩)]) w (retQ orc Tryz.f70.results.toList K)) h)

def hollowaybook_Book_growWords_sh (b_1 : Nat) (w : World) (K : Value → World → Prop) : Prop :=
 ∃ (I1 : Sl → Int → World → Prop) (μ1 : Sl → Int → World → Nat), I1 (⟨none, 0, 0⟩ : Sl) (0 : Int) w ∧ ∀ (out16 : Sl) (i3 : Int) (w2 : World), I1 out16 i3 w2 →
 ∃ s4 : Sl, w2.cell? ⟨b_1, 4, none⟩ = some (s4.val) ∧
 brB (decide (i3 < (s4.len : Int)))
 (∃ s5 : Sl, w2.cell? ⟨b_1, 4, none⟩ = some (s5.val) ∧
 ∃ a6 : Addr, s5.ptr = some a6 ∧ 0 ≤ i3 ∧ i3 < (s5.len : Int) ∧
 ∃ s7 : Sl, w2.cell? (Addr.add a6 (Int.toNat i3 * 1)) = some (s7.val) ∧
 ∃ (I2 : Sl → Int → World → Prop) (μ2 : Sl → Int → World → Nat), I2 s7 (0 : Int) w2 ∧ ∀ (l10 : Sl) (n9 : Int) (w8 : World), I2 l10 n9 w8 →
 brB (decide (n9 < (12 : Int)))
 (Calls Tryz.prog fn_hollowaybook_markWords #[.int .i64 i3, .int .i64 (l10.len : Int), .int .i64 (1 : Int)] w8 fun e11 w12 => ∃ s13 : Sl, e11 = .returned (s13.val) ∧
 ∃ s14 : Sl, ∃ w15 : World, (Builtin.append_ #[T_sl_api_Word, T_sl_api_Word] T_sl_api_Word #[l10.val, s13.val]).run Tryz.prog w12 = .ok (s14.val) w15 ∧
 I2 s14 (wr (n9 + (1 : Int))) w15 ∧ μ2 s14 (wr (n9 + (1 : Int))) w15 < μ2 l10 n9 w8)
 (Calls Tryz.prog fn_hollowaybook_markWords #[.int .i64 i3, .int .i64 (l10.len : Int), .int .i64 (60 : Int)] w8 fun e17 w18 => ∃ s19 : Sl, e17 = .returned (s19.val) ∧
 ∃ s20 : Sl, ∃ w21 : World, (Builtin.append_ #[T_sl_api_Word, T_sl_api_Word] T_sl_api_Word #[l10.val, s19.val]).run Tryz.prog w18 = .ok (s20.val) w21 ∧
 ∀ (b22 : Nat) (w23 : World), b22 = w21.heap.size → w23 = World.alloc w21 (.cells #[s20.val] T_sl_api_Word) →
 ∃ s24 : Sl, ∃ w25 : World, (Builtin.append_ #[T_sl_sl_api_Word, T_sl_sl_api_Word] T_sl_sl_api_Word #[out16.val, .slice (some ⟨b22, 0, none⟩) 1 1]).run Tryz.prog w23 = .ok (s24.val) w25 ∧
 I1 s24 (wr (i3 + (1 : Int))) w25 ∧ μ1 s24 (wr (i3 + (1 : Int))) w25 < μ1 out16 i3 w2))
 (K (out16.val) w2)
def hollowaybook_Book_growWords_an : An := ⟨[(3, [(3, .sl), (4, .int .i64)]), (7, [(5, .sl), (6, .int .i64)])], [], []⟩
theorem hollowaybook_Book_growWords_lift {b_1 : Nat} {w : World} {K : Value → World → Prop} (h : hollowaybook_Book_growWords_sh b_1 w K) : Calls Tryz.prog fn_hollowaybook_Book_growWords #[.pointer (some ⟨b_1, 0, none⟩)] w fun e w' => ∃ v, e = .returned v ∧ K v w' :=
   lift_calls (A := hollowaybook_Book_growWords_an) (c := bodyOf Tryz.f71) (args := [.pointer (some ⟨b_1, 0, none⟩)]) orc orc_wide Tryz.func71 (by kernel_rfl) (by kernel_rfl) (Eq.mp (by kernel_rfl : hollowaybook_Book_growWords_sh b_1 w K = wpc orc Tryz.f71.ntmps hollowaybook_Book_growWords_an (bodyOf Tryz.f71) (argl 0 [.pointer (some ⟨b_1, 0, none⟩)]) w (retQ orc Tryz.f71.results.toList K)) h)

def hollowaybook_Book_growSeens_sh (b_1 : Nat) (w : World) (K : Value → World → Prop) : Prop :=
 ∃ (I1 : Sl → Int → World → Prop) (μ1 : Sl → Int → World → Nat), I1 (⟨none, 0, 0⟩ : Sl) (0 : Int) w ∧ ∀ (out16 : Sl) (i3 : Int) (w2 : World), I1 out16 i3 w2 →
 ∃ s4 : Sl, w2.cell? ⟨b_1, 6, none⟩ = some (s4.val) ∧
 brB (decide (i3 < (s4.len : Int)))
 (∃ s5 : Sl, w2.cell? ⟨b_1, 6, none⟩ = some (s5.val) ∧
 ∃ a6 : Addr, s5.ptr = some a6 ∧ 0 ≤ i3 ∧ i3 < (s5.len : Int) ∧
 ∃ s7 : Sl, w2.cell? (Addr.add a6 (Int.toNat i3 * 1)) = some (s7.val) ∧
 ∃ (I2 : Sl → Int → World → Prop) (μ2 : Sl → Int → World → Nat), I2 s7 (0 : Int) w2 ∧ ∀ (l10 : Sl) (n9 : Int) (w8 : World), I2 l10 n9 w8 →
 brB (decide (n9 < (12 : Int)))
 (Calls Tryz.prog fn_hollowaybook_markSeens #[.int .i64 i3, .int .i64 (l10.len : Int), .int .i64 (1 : Int)] w8 fun e11 w12 => ∃ s13 : Sl, e11 = .returned (s13.val) ∧
 ∃ s14 : Sl, ∃ w15 : World, (Builtin.append_ #[T_sl_api_Seen, T_sl_api_Seen] T_sl_api_Seen #[l10.val, s13.val]).run Tryz.prog w12 = .ok (s14.val) w15 ∧
 I2 s14 (wr (n9 + (1 : Int))) w15 ∧ μ2 s14 (wr (n9 + (1 : Int))) w15 < μ2 l10 n9 w8)
 (Calls Tryz.prog fn_hollowaybook_markSeens #[.int .i64 i3, .int .i64 (l10.len : Int), .int .i64 (60 : Int)] w8 fun e17 w18 => ∃ s19 : Sl, e17 = .returned (s19.val) ∧
 ∃ s20 : Sl, ∃ w21 : World, (Builtin.append_ #[T_sl_api_Seen, T_sl_api_Seen] T_sl_api_Seen #[l10.val, s19.val]).run Tryz.prog w18 = .ok (s20.val) w21 ∧
 ∀ (b22 : Nat) (w23 : World), b22 = w21.heap.size → w23 = World.alloc w21 (.cells #[s20.val] T_sl_api_Seen) →
 ∃ s24 : Sl, ∃ w25 : World, (Builtin.append_ #[T_sl_sl_api_Seen, T_sl_sl_api_Seen] T_sl_sl_api_Seen #[out16.val, .slice (some ⟨b22, 0, none⟩) 1 1]).run Tryz.prog w23 = .ok (s24.val) w25 ∧
 I1 s24 (wr (i3 + (1 : Int))) w25 ∧ μ1 s24 (wr (i3 + (1 : Int))) w25 < μ1 out16 i3 w2))
 (K (out16.val) w2)
def hollowaybook_Book_growSeens_an : An := ⟨[(3, [(3, .sl), (4, .int .i64)]), (7, [(5, .sl), (6, .int .i64)])], [], []⟩
theorem hollowaybook_Book_growSeens_lift {b_1 : Nat} {w : World} {K : Value → World → Prop} (h : hollowaybook_Book_growSeens_sh b_1 w K) : Calls Tryz.prog fn_hollowaybook_Book_growSeens #[.pointer (some ⟨b_1, 0, none⟩)] w fun e w' => ∃ v, e = .returned v ∧ K v w' :=
   lift_calls (A := hollowaybook_Book_growSeens_an) (c := bodyOf Tryz.f72) (args := [.pointer (some ⟨b_1, 0, none⟩)]) orc orc_wide Tryz.func72 (by kernel_rfl) (by kernel_rfl) (Eq.mp (by kernel_rfl : hollowaybook_Book_growSeens_sh b_1 w K = wpc orc Tryz.f72.ntmps hollowaybook_Book_growSeens_an (bodyOf Tryz.f72) (argl 0 [.pointer (some ⟨b_1, 0, none⟩)]) w (retQ orc Tryz.f72.results.toList K)) h)

def hollowaybook_Book_growCodes_sh (b_1 : Nat) (w : World) (K : Value → World → Prop) : Prop :=
 ∃ (I1 : Sl → Int → World → Prop) (μ1 : Sl → Int → World → Nat), I1 (⟨none, 0, 0⟩ : Sl) (0 : Int) w ∧ ∀ (out16 : Sl) (i3 : Int) (w2 : World), I1 out16 i3 w2 →
 ∃ s4 : Sl, w2.cell? ⟨b_1, 8, none⟩ = some (s4.val) ∧
 brB (decide (i3 < (s4.len : Int)))
 (∃ s5 : Sl, w2.cell? ⟨b_1, 8, none⟩ = some (s5.val) ∧
 ∃ a6 : Addr, s5.ptr = some a6 ∧ 0 ≤ i3 ∧ i3 < (s5.len : Int) ∧
 ∃ s7 : Sl, w2.cell? (Addr.add a6 (Int.toNat i3 * 1)) = some (s7.val) ∧
 ∃ (I2 : Sl → Int → World → Prop) (μ2 : Sl → Int → World → Nat), I2 s7 (0 : Int) w2 ∧ ∀ (l10 : Sl) (n9 : Int) (w8 : World), I2 l10 n9 w8 →
 brB (decide (n9 < (12 : Int)))
 (Calls Tryz.prog fn_hollowaybook_markCodes #[.int .i64 i3, .int .i64 (l10.len : Int), .int .i64 (1 : Int)] w8 fun e11 w12 => ∃ s13 : Sl, e11 = .returned (s13.val) ∧
 ∃ s14 : Sl, ∃ w15 : World, (Builtin.append_ #[T_sl_api_Ins, T_sl_api_Ins] T_sl_api_Ins #[l10.val, s13.val]).run Tryz.prog w12 = .ok (s14.val) w15 ∧
 I2 s14 (wr (n9 + (1 : Int))) w15 ∧ μ2 s14 (wr (n9 + (1 : Int))) w15 < μ2 l10 n9 w8)
 (Calls Tryz.prog fn_hollowaybook_markCodes #[.int .i64 i3, .int .i64 (l10.len : Int), .int .i64 (60 : Int)] w8 fun e17 w18 => ∃ s19 : Sl, e17 = .returned (s19.val) ∧
 ∃ s20 : Sl, ∃ w21 : World, (Builtin.append_ #[T_sl_api_Ins, T_sl_api_Ins] T_sl_api_Ins #[l10.val, s19.val]).run Tryz.prog w18 = .ok (s20.val) w21 ∧
 ∀ (b22 : Nat) (w23 : World), b22 = w21.heap.size → w23 = World.alloc w21 (.cells #[s20.val] T_sl_api_Ins) →
 ∃ s24 : Sl, ∃ w25 : World, (Builtin.append_ #[T_sl_sl_api_Ins, T_sl_sl_api_Ins] T_sl_sl_api_Ins #[out16.val, .slice (some ⟨b22, 0, none⟩) 1 1]).run Tryz.prog w23 = .ok (s24.val) w25 ∧
 I1 s24 (wr (i3 + (1 : Int))) w25 ∧ μ1 s24 (wr (i3 + (1 : Int))) w25 < μ1 out16 i3 w2))
 (K (out16.val) w2)
def hollowaybook_Book_growCodes_an : An := ⟨[(3, [(3, .sl), (4, .int .i64)]), (7, [(5, .sl), (6, .int .i64)])], [], []⟩
theorem hollowaybook_Book_growCodes_lift {b_1 : Nat} {w : World} {K : Value → World → Prop} (h : hollowaybook_Book_growCodes_sh b_1 w K) : Calls Tryz.prog fn_hollowaybook_Book_growCodes #[.pointer (some ⟨b_1, 0, none⟩)] w fun e w' => ∃ v, e = .returned v ∧ K v w' :=
   lift_calls (A := hollowaybook_Book_growCodes_an) (c := bodyOf Tryz.f73) (args := [.pointer (some ⟨b_1, 0, none⟩)]) orc orc_wide Tryz.func73 (by kernel_rfl) (by kernel_rfl) (Eq.mp (by kernel_rfl : hollowaybook_Book_growCodes_sh b_1 w K = wpc orc Tryz.f73.ntmps hollowaybook_Book_growCodes_an (bodyOf Tryz.f73) (argl 0 [.pointer (some ⟨b_1, 0, none⟩)]) w (retQ orc Tryz.f73.results.toList K)) h)

def hollowaybook_Book_growExits_sh (b_1 : Nat) (w : World) (K : Value → World → Prop) : Prop :=
 ∃ (I1 : Sl → Int → World → Prop) (μ1 : Sl → Int → World → Nat), I1 (⟨none, 0, 0⟩ : Sl) (0 : Int) w ∧ ∀ (out16 : Sl) (i3 : Int) (w2 : World), I1 out16 i3 w2 →
 ∃ s4 : Sl, w2.cell? ⟨b_1, 10, none⟩ = some (s4.val) ∧
 brB (decide (i3 < (s4.len : Int)))
 (∃ s5 : Sl, w2.cell? ⟨b_1, 10, none⟩ = some (s5.val) ∧
 ∃ a6 : Addr, s5.ptr = some a6 ∧ 0 ≤ i3 ∧ i3 < (s5.len : Int) ∧
 ∃ s7 : Sl, w2.cell? (Addr.add a6 (Int.toNat i3 * 1)) = some (s7.val) ∧
 ∃ (I2 : Sl → Int → World → Prop) (μ2 : Sl → Int → World → Nat), I2 s7 (0 : Int) w2 ∧ ∀ (l10 : Sl) (n9 : Int) (w8 : World), I2 l10 n9 w8 →
 brB (decide (n9 < (12 : Int)))
 (Calls Tryz.prog fn_hollowaybook_markExits #[.int .i64 i3, .int .i64 (l10.len : Int), .int .i64 (1 : Int)] w8 fun e11 w12 => ∃ s13 : Sl, e11 = .returned (s13.val) ∧
 ∃ s14 : Sl, ∃ w15 : World, (Builtin.append_ #[T_sl_api_Out, T_sl_api_Out] T_sl_api_Out #[l10.val, s13.val]).run Tryz.prog w12 = .ok (s14.val) w15 ∧
 I2 s14 (wr (n9 + (1 : Int))) w15 ∧ μ2 s14 (wr (n9 + (1 : Int))) w15 < μ2 l10 n9 w8)
 (Calls Tryz.prog fn_hollowaybook_markExits #[.int .i64 i3, .int .i64 (l10.len : Int), .int .i64 (60 : Int)] w8 fun e17 w18 => ∃ s19 : Sl, e17 = .returned (s19.val) ∧
 ∃ s20 : Sl, ∃ w21 : World, (Builtin.append_ #[T_sl_api_Out, T_sl_api_Out] T_sl_api_Out #[l10.val, s19.val]).run Tryz.prog w18 = .ok (s20.val) w21 ∧
 ∀ (b22 : Nat) (w23 : World), b22 = w21.heap.size → w23 = World.alloc w21 (.cells #[s20.val] T_sl_api_Out) →
 ∃ s24 : Sl, ∃ w25 : World, (Builtin.append_ #[T_sl_sl_api_Out, T_sl_sl_api_Out] T_sl_sl_api_Out #[out16.val, .slice (some ⟨b22, 0, none⟩) 1 1]).run Tryz.prog w23 = .ok (s24.val) w25 ∧
 I1 s24 (wr (i3 + (1 : Int))) w25 ∧ μ1 s24 (wr (i3 + (1 : Int))) w25 < μ1 out16 i3 w2))
 (K (out16.val) w2)
def hollowaybook_Book_growExits_an : An := ⟨[(3, [(3, .sl), (4, .int .i64)]), (7, [(5, .sl), (6, .int .i64)])], [], []⟩
theorem hollowaybook_Book_growExits_lift {b_1 : Nat} {w : World} {K : Value → World → Prop} (h : hollowaybook_Book_growExits_sh b_1 w K) : Calls Tryz.prog fn_hollowaybook_Book_growExits #[.pointer (some ⟨b_1, 0, none⟩)] w fun e w' => ∃ v, e = .returned v ∧ K v w' :=
   lift_calls (A := hollowaybook_Book_growExits_an) (c := bodyOf Tryz.f74) (args := [.pointer (some ⟨b_1, 0, none⟩)]) orc orc_wide Tryz.func74 (by kernel_rfl) (by kernel_rfl) (Eq.mp (by kernel_rfl : hollowaybook_Book_growExits_sh b_1 w K = wpc orc Tryz.f74.ntmps hollowaybook_Book_growExits_an (bodyOf Tryz.f74) (argl 0 [.pointer (some ⟨b_1, 0, none⟩)]) w (retQ orc Tryz.f74.results.toList K)) h)

def hollowaybook_markedTexts_sh (l_1 : Sl) (w : World) (K : Value → World → Prop) : Prop :=
 ∃ (I1 : Int → World → Prop) (μ1 : Int → World → Nat), I1 (0 : Int) w ∧ ∀ (i3 : Int) (w2 : World), I1 i3 w2 →
 brB (decide (i3 < (l_1.len : Int)))
 (∀ w4 : World, w4 = World.drew w2 →
 ∃ S5 : World → Prop, S5 w4 ∧
 ∃ a6 : Addr, l_1.ptr = some a6 ∧ 0 ≤ i3 ∧ i3 < (l_1.len : Int) ∧
 ∃ s7 : Sl, held S5 (Addr.add a6 (Int.toNat i3 * 1)) (s7.val) ∧
 ∃ a8 : Addr, l_1.ptr = some a8 ∧ 0 ≤ i3 ∧ i3 < (l_1.len : Int) ∧
 ∃ s9 : Sl, held S5 (Addr.add a8 (Int.toNat i3 * 1)) (s9.val) ∧
 Calls Tryz.prog fn_hollowaybook_markTexts #[.int .i64 i3, .int .i64 (0 : Int), .int .i64 (s9.len : Int)] w4 fun e10 w11 => ∃ s12 : Sl, e10 = .returned (s12.val) ∧
 S5 w11 ∧
 Calls Tryz.prog fn_hollowaybook_SameTexts #[s7.val, s12.val] w11 fun e13 w14 => ∃ b15 : Bool, e13 = .returned (.bool b15) ∧
 brB (!b15)
 (K (.bool false) w14)
 (I1 (wr (i3 + (1 : Int))) w14 ∧ μ1 (wr (i3 + (1 : Int))) w14 < μ1 i3 w2))
 (K (.bool true) w2)
def hollowaybook_markedTexts_an : An := ⟨[(2, [(3, .int .i64)])], [(4, (11, .st 0 (.st 1 (.st 2 (.st 3 (.st 4 (.st 5 (.st 6 (.st 7 (.st 8 (.st 9 (.ef 10 .done)))))))))), 1))], []⟩
theorem hollowaybook_markedTexts_lift {l_1 : Sl} {w : World} {K : Value → World → Prop} (h : hollowaybook_markedTexts_sh l_1 w K) : Calls Tryz.prog fn_hollowaybook_markedTexts #[l_1.val] w fun e w' => ∃ v, e = .returned v ∧ K v w' :=
   lift_calls (A := hollowaybook_markedTexts_an) (c := bodyOf Tryz.f75) (args := [l_1.val]) orc orc_wide Tryz.func75 (by kernel_rfl) (by kernel_rfl) (Eq.mp (by kernel_rfl : hollowaybook_markedTexts_sh l_1 w K = wpc orc Tryz.f75.ntmps hollowaybook_markedTexts_an (bodyOf Tryz.f75) (argl 0 [l_1.val]) w (retQ orc Tryz.f75.results.toList K)) h)

def hollowaybook_markedInts_sh (l_1 : Sl) (w : World) (K : Value → World → Prop) : Prop :=
 ∃ (I1 : Int → World → Prop) (μ1 : Int → World → Nat), I1 (0 : Int) w ∧ ∀ (i3 : Int) (w2 : World), I1 i3 w2 →
 brB (decide (i3 < (l_1.len : Int)))
 (∀ w4 : World, w4 = World.drew w2 →
 ∃ S5 : World → Prop, S5 w4 ∧
 ∃ a6 : Addr, l_1.ptr = some a6 ∧ 0 ≤ i3 ∧ i3 < (l_1.len : Int) ∧
 ∃ s7 : Sl, held S5 (Addr.add a6 (Int.toNat i3 * 1)) (s7.val) ∧
 ∃ a8 : Addr, l_1.ptr = some a8 ∧ 0 ≤ i3 ∧ i3 < (l_1.len : Int) ∧
 ∃ s9 : Sl, held S5 (Addr.add a8 (Int.toNat i3 * 1)) (s9.val) ∧
 Calls Tryz.prog fn_hollowaybook_markInts #[.int .i64 i3, .int .i64 (0 : Int), .int .i64 (s9.len : Int)] w4 fun e10 w11 => ∃ s12 : Sl, e10 = .returned (s12.val) ∧
 S5 w11 ∧
 Calls Tryz.prog fn_hollowaybook_SameInts #[s7.val, s12.val] w11 fun e13 w14 => ∃ b15 : Bool, e13 = .returned (.bool b15) ∧
 brB (!b15)
 (K (.bool false) w14)
 (I1 (wr (i3 + (1 : Int))) w14 ∧ μ1 (wr (i3 + (1 : Int))) w14 < μ1 i3 w2))
 (K (.bool true) w2)
def hollowaybook_markedInts_an : An := ⟨[(2, [(3, .int .i64)])], [(4, (11, .st 0 (.st 1 (.st 2 (.st 3 (.st 4 (.st 5 (.st 6 (.st 7 (.st 8 (.st 9 (.ef 10 .done)))))))))), 1))], []⟩
theorem hollowaybook_markedInts_lift {l_1 : Sl} {w : World} {K : Value → World → Prop} (h : hollowaybook_markedInts_sh l_1 w K) : Calls Tryz.prog fn_hollowaybook_markedInts #[l_1.val] w fun e w' => ∃ v, e = .returned v ∧ K v w' :=
   lift_calls (A := hollowaybook_markedInts_an) (c := bodyOf Tryz.f76) (args := [l_1.val]) orc orc_wide Tryz.func76 (by kernel_rfl) (by kernel_rfl) (Eq.mp (by kernel_rfl : hollowaybook_markedInts_sh l_1 w K = wpc orc Tryz.f76.ntmps hollowaybook_markedInts_an (bodyOf Tryz.f76) (argl 0 [l_1.val]) w (retQ orc Tryz.f76.results.toList K)) h)

def hollowaybook_markedWords_sh (l_1 : Sl) (w : World) (K : Value → World → Prop) : Prop :=
 ∃ (I1 : Int → World → Prop) (μ1 : Int → World → Nat), I1 (0 : Int) w ∧ ∀ (i3 : Int) (w2 : World), I1 i3 w2 →
 brB (decide (i3 < (l_1.len : Int)))
 (∀ w4 : World, w4 = World.drew w2 →
 ∃ S5 : World → Prop, S5 w4 ∧
 ∃ a6 : Addr, l_1.ptr = some a6 ∧ 0 ≤ i3 ∧ i3 < (l_1.len : Int) ∧
 ∃ s7 : Sl, held S5 (Addr.add a6 (Int.toNat i3 * 1)) (s7.val) ∧
 ∃ a8 : Addr, l_1.ptr = some a8 ∧ 0 ≤ i3 ∧ i3 < (l_1.len : Int) ∧
 ∃ s9 : Sl, held S5 (Addr.add a8 (Int.toNat i3 * 1)) (s9.val) ∧
 Calls Tryz.prog fn_hollowaybook_markWords #[.int .i64 i3, .int .i64 (0 : Int), .int .i64 (s9.len : Int)] w4 fun e10 w11 => ∃ s12 : Sl, e10 = .returned (s12.val) ∧
 S5 w11 ∧
 Calls Tryz.prog fn_hollowaybook_SameWords #[s7.val, s12.val] w11 fun e13 w14 => ∃ b15 : Bool, e13 = .returned (.bool b15) ∧
 brB (!b15)
 (K (.bool false) w14)
 (I1 (wr (i3 + (1 : Int))) w14 ∧ μ1 (wr (i3 + (1 : Int))) w14 < μ1 i3 w2))
 (K (.bool true) w2)
def hollowaybook_markedWords_an : An := ⟨[(2, [(3, .int .i64)])], [(4, (11, .st 0 (.st 1 (.st 2 (.st 3 (.st 4 (.st 5 (.st 6 (.st 7 (.st 8 (.st 9 (.ef 10 .done)))))))))), 1))], []⟩
theorem hollowaybook_markedWords_lift {l_1 : Sl} {w : World} {K : Value → World → Prop} (h : hollowaybook_markedWords_sh l_1 w K) : Calls Tryz.prog fn_hollowaybook_markedWords #[l_1.val] w fun e w' => ∃ v, e = .returned v ∧ K v w' :=
   lift_calls (A := hollowaybook_markedWords_an) (c := bodyOf Tryz.f77) (args := [l_1.val]) orc orc_wide Tryz.func77 (by kernel_rfl) (by kernel_rfl) (Eq.mp (by kernel_rfl : hollowaybook_markedWords_sh l_1 w K = wpc orc Tryz.f77.ntmps hollowaybook_markedWords_an (bodyOf Tryz.f77) (argl 0 [l_1.val]) w (retQ orc Tryz.f77.results.toList K)) h)

def hollowaybook_markedSeens_sh (l_1 : Sl) (w : World) (K : Value → World → Prop) : Prop :=
 ∃ (I1 : Int → World → Prop) (μ1 : Int → World → Nat), I1 (0 : Int) w ∧ ∀ (i3 : Int) (w2 : World), I1 i3 w2 →
 brB (decide (i3 < (l_1.len : Int)))
 (∀ w4 : World, w4 = World.drew w2 →
 ∃ S5 : World → Prop, S5 w4 ∧
 ∃ a6 : Addr, l_1.ptr = some a6 ∧ 0 ≤ i3 ∧ i3 < (l_1.len : Int) ∧
 ∃ s7 : Sl, held S5 (Addr.add a6 (Int.toNat i3 * 1)) (s7.val) ∧
 ∃ a8 : Addr, l_1.ptr = some a8 ∧ 0 ≤ i3 ∧ i3 < (l_1.len : Int) ∧
 ∃ s9 : Sl, held S5 (Addr.add a8 (Int.toNat i3 * 1)) (s9.val) ∧
 Calls Tryz.prog fn_hollowaybook_markSeens #[.int .i64 i3, .int .i64 (0 : Int), .int .i64 (s9.len : Int)] w4 fun e10 w11 => ∃ s12 : Sl, e10 = .returned (s12.val) ∧
 S5 w11 ∧
 Calls Tryz.prog fn_hollowaybook_SameSeens #[s7.val, s12.val] w11 fun e13 w14 => ∃ b15 : Bool, e13 = .returned (.bool b15) ∧
 brB (!b15)
 (K (.bool false) w14)
 (I1 (wr (i3 + (1 : Int))) w14 ∧ μ1 (wr (i3 + (1 : Int))) w14 < μ1 i3 w2))
 (K (.bool true) w2)
def hollowaybook_markedSeens_an : An := ⟨[(2, [(3, .int .i64)])], [(4, (11, .st 0 (.st 1 (.st 2 (.st 3 (.st 4 (.st 5 (.st 6 (.st 7 (.st 8 (.st 9 (.ef 10 .done)))))))))), 1))], []⟩
theorem hollowaybook_markedSeens_lift {l_1 : Sl} {w : World} {K : Value → World → Prop} (h : hollowaybook_markedSeens_sh l_1 w K) : Calls Tryz.prog fn_hollowaybook_markedSeens #[l_1.val] w fun e w' => ∃ v, e = .returned v ∧ K v w' :=
   lift_calls (A := hollowaybook_markedSeens_an) (c := bodyOf Tryz.f78) (args := [l_1.val]) orc orc_wide Tryz.func78 (by kernel_rfl) (by kernel_rfl) (Eq.mp (by kernel_rfl : hollowaybook_markedSeens_sh l_1 w K = wpc orc Tryz.f78.ntmps hollowaybook_markedSeens_an (bodyOf Tryz.f78) (argl 0 [l_1.val]) w (retQ orc Tryz.f78.results.toList K)) h)

def hollowaybook_markedCodes_sh (l_1 : Sl) (w : World) (K : Value → World → Prop) : Prop :=
 ∃ (I1 : Int → World → Prop) (μ1 : Int → World → Nat), I1 (0 : Int) w ∧ ∀ (i3 : Int) (w2 : World), I1 i3 w2 →
 brB (decide (i3 < (l_1.len : Int)))
 (∀ w4 : World, w4 = World.drew w2 →
 ∃ S5 : World → Prop, S5 w4 ∧
 ∃ a6 : Addr, l_1.ptr = some a6 ∧ 0 ≤ i3 ∧ i3 < (l_1.len : Int) ∧
 ∃ s7 : Sl, held S5 (Addr.add a6 (Int.toNat i3 * 1)) (s7.val) ∧
 ∃ a8 : Addr, l_1.ptr = some a8 ∧ 0 ≤ i3 ∧ i3 < (l_1.len : Int) ∧
 ∃ s9 : Sl, held S5 (Addr.add a8 (Int.toNat i3 * 1)) (s9.val) ∧
 Calls Tryz.prog fn_hollowaybook_markCodes #[.int .i64 i3, .int .i64 (0 : Int), .int .i64 (s9.len : Int)] w4 fun e10 w11 => ∃ s12 : Sl, e10 = .returned (s12.val) ∧
 S5 w11 ∧
 Calls Tryz.prog fn_hollowaybook_SameCodes #[s7.val, s12.val] w11 fun e13 w14 => ∃ b15 : Bool, e13 = .returned (.bool b15) ∧
 brB (!b15)
 (K (.bool false) w14)
 (I1 (wr (i3 + (1 : Int))) w14 ∧ μ1 (wr (i3 + (1 : Int))) w14 < μ1 i3 w2))
 (K (.bool true) w2)
def hollowaybook_markedCodes_an : An := ⟨[(2, [(3, .int .i64)])], [(4, (11, .st 0 (.st 1 (.st 2 (.st 3 (.st 4 (.st 5 (.st 6 (.st 7 (.st 8 (.st 9 (.ef 10 .done)))))))))), 1))], []⟩
theorem hollowaybook_markedCodes_lift {l_1 : Sl} {w : World} {K : Value → World → Prop} (h : hollowaybook_markedCodes_sh l_1 w K) : Calls Tryz.prog fn_hollowaybook_markedCodes #[l_1.val] w fun e w' => ∃ v, e = .returned v ∧ K v w' :=
   lift_calls (A := hollowaybook_markedCodes_an) (c := bodyOf Tryz.f79) (args := [l_1.val]) orc orc_wide Tryz.func79 (by kernel_rfl) (by kernel_rfl) (Eq.mp (by kernel_rfl : hollowaybook_markedCodes_sh l_1 w K = wpc orc Tryz.f79.ntmps hollowaybook_markedCodes_an (bodyOf Tryz.f79) (argl 0 [l_1.val]) w (retQ orc Tryz.f79.results.toList K)) h)

def hollowaybook_markedExits_sh (l_1 : Sl) (w : World) (K : Value → World → Prop) : Prop :=
 ∃ (I1 : Int → World → Prop) (μ1 : Int → World → Nat), I1 (0 : Int) w ∧ ∀ (i3 : Int) (w2 : World), I1 i3 w2 →
 brB (decide (i3 < (l_1.len : Int)))
 (∀ w4 : World, w4 = World.drew w2 →
 ∃ S5 : World → Prop, S5 w4 ∧
 ∃ a6 : Addr, l_1.ptr = some a6 ∧ 0 ≤ i3 ∧ i3 < (l_1.len : Int) ∧
 ∃ s7 : Sl, held S5 (Addr.add a6 (Int.toNat i3 * 1)) (s7.val) ∧
 ∃ a8 : Addr, l_1.ptr = some a8 ∧ 0 ≤ i3 ∧ i3 < (l_1.len : Int) ∧
 ∃ s9 : Sl, held S5 (Addr.add a8 (Int.toNat i3 * 1)) (s9.val) ∧
 Calls Tryz.prog fn_hollowaybook_markExits #[.int .i64 i3, .int .i64 (0 : Int), .int .i64 (s9.len : Int)] w4 fun e10 w11 => ∃ s12 : Sl, e10 = .returned (s12.val) ∧
 S5 w11 ∧
 Calls Tryz.prog fn_hollowaybook_SameExits #[s7.val, s12.val] w11 fun e13 w14 => ∃ b15 : Bool, e13 = .returned (.bool b15) ∧
 brB (!b15)
 (K (.bool false) w14)
 (I1 (wr (i3 + (1 : Int))) w14 ∧ μ1 (wr (i3 + (1 : Int))) w14 < μ1 i3 w2))
 (K (.bool true) w2)
def hollowaybook_markedExits_an : An := ⟨[(2, [(3, .int .i64)])], [(4, (11, .st 0 (.st 1 (.st 2 (.st 3 (.st 4 (.st 5 (.st 6 (.st 7 (.st 8 (.st 9 (.ef 10 .done)))))))))), 1))], []⟩
theorem hollowaybook_markedExits_lift {l_1 : Sl} {w : World} {K : Value → World → Prop} (h : hollowaybook_markedExits_sh l_1 w K) : Calls Tryz.prog fn_hollowaybook_markedExits #[l_1.val] w fun e w' => ∃ v, e = .returned v ∧ K v w' :=
   lift_calls (A := hollowaybook_markedExits_an) (c := bodyOf Tryz.f80) (args := [l_1.val]) orc orc_wide Tryz.func80 (by kernel_rfl) (by kernel_rfl) (Eq.mp (by kernel_rfl : hollowaybook_markedExits_sh l_1 w K = wpc orc Tryz.f80.ntmps hollowaybook_markedExits_an (bodyOf Tryz.f80) (argl 0 [l_1.val]) w (retQ orc Tryz.f80.results.toList K)) h)

def hollowaybook_SameCodes_sh (a_1 : Sl) (b_2 : Sl) (w : World) (K : Value → World → Prop) : Prop :=
 brB ((a_1.len : Int) != (b_2.len : Int))
 (K (.bool false) w)
 (∃ (I1 : Int → World → Prop) (μ1 : Int → World → Nat), I1 (0 : Int) w ∧ ∀ (i4 : Int) (w3 : World), I1 i4 w3 →
 brB (decide (i4 < (a_1.len : Int)))
 (∀ w5 : World, w5 = World.drew w3 →
 ∃ a6 : Addr, a_1.ptr = some a6 ∧ 0 ≤ i4 ∧ i4 < (a_1.len : Int) ∧
 ∃ n7 n8 : Int, ∃ n9 n10 n11 : Int, held (Lw w5) (Addr.add a6 (Int.toNat i4 * 5)) (.int .i64 n7) ∧ held (Lw w5) (Addr.add (Addr.add a6 (Int.toNat i4 * 5)) 1) (.int .i64 n8) ∧ held (Lw w5) (Addr.add (Addr.add a6 (Int.toNat i4 * 5)) 2) (.int .i64 n9) ∧ held (Lw w5) (Addr.add (Addr.add a6 (Int.toNat i4 * 5)) 3) (.int .i64 n10) ∧ held (Lw w5) (Addr.add (Addr.add a6 (Int.toNat i4 * 5)) 4) (.int .i64 n11) ∧
 ∃ a12 : Addr, b_2.ptr = some a12 ∧ 0 ≤ i4 ∧ i4 < (b_2.len : Int) ∧
 ∃ n13 n14 : Int, ∃ n15 n16 n17 : Int, held (Lw w5) (Addr.add a12 (Int.toNat i4 * 5)) (.int .i64 n13) ∧ held (Lw w5) (Addr.add (Addr.add a12 (Int.toNat i4 * 5)) 1) (.int .i64 n14) ∧ held (Lw w5) (Addr.add (Addr.add a12 (Int.toNat i4 * 5)) 2) (.int .i64 n15) ∧ held (Lw w5) (Addr.add (Addr.add a12 (Int.toNat i4 * 5)) 3) (.int .i64 n16) ∧ held (Lw w5) (Addr.add (Addr.add a12 (Int.toNat i4 * 5)) 4) (.int .i64 n17) ∧
 ∃ b18 : Bool, ∃ w19 : World, ((do eqGuard .eql T_api_Ins (.tmp 20) (.tmp 24) (.agg #[.int .i64 n7, .int .i64 n8, .int .i64 n9, .int .i64 n10, .int .i64 n11]) (.agg #[.int .i64 n13, .int .i64 n14, .int .i64 n15, .int .i64 n16, .int .i64 n17]); binOp .eql T_api_Ins (.agg #[.int .i64 n7, .int .i64 n8, .int .i64 n9, .int .i64 n10, .int .i64 n11]) (.agg #[.int .i64 n13, .int .i64 n14, .int .i64 n15, .int .i64 n16, .int .i64 n17]) : Sem Value)).run Tryz.prog w5 = .ok (.bool b18) w19 ∧
 brB (!b18)
 (K (.bool false) w19)
 (I1 (wr (i4 + (1 : Int))) w19 ∧ μ1 (wr (i4 + (1 : Int))) w19 < μ1 i4 w3))
 (K (.bool true) w3))
def hollowaybook_SameCodes_an : An := ⟨[(4, [(5, .int .i64)])], [(6, (8, .st 0 (.st 1 (.st 2 (.st 3 (.st 4 (.st 5 (.st 6 (.st 7 .done))))))), 0))], []⟩
theorem hollowaybook_SameCodes_lift {a_1 : Sl} {b_2 : Sl} {w : World} {K : Value → World → Prop} (h : hollowaybook_SameCodes_sh a_1 b_2 w K) : Calls Tryz.prog fn_hollowaybook_SameCodes #[a_1.val, b_2.val] w fun e w' => ∃ v, e = .returned v ∧ K v w' :=
   lift_calls (A := hollowaybook_SameCodes_an) (c := bodyOf Tryz.f90) (args := [a_1.val, b_2.val]) orc orc_wide Tryz.func90 (by kernel_rfl) (by kernel_rfl) (Eq.mp (by kernel_rfl : hollowaybook_SameCodes_sh a_1 b_2 w K = wpc orc Tryz.f90.ntmps hollowaybook_SameCodes_an (bodyOf Tryz.f90) (argl 0 [a_1.val, b_2.val]) w (retQ orc Tryz.f90.results.toList K)) h)

def hollowaybook_SameExits_sh (a_1 : Sl) (b_2 : Sl) (w : World) (K : Value → World → Prop) : Prop :=
 brB ((a_1.len : Int) != (b_2.len : Int))
 (K (.bool false) w)
 (∃ (I1 : Int → World → Prop) (μ1 : Int → World → Nat), I1 (0 : Int) w ∧ ∀ (i4 : Int) (w3 : World), I1 i4 w3 →
 brB (decide (i4 < (a_1.len : Int)))
 (∃ J10 : Bool → World → Prop, (∀ (b30 : Bool) (w29 : World), J10 b30 w29 →
 brB b30
 (K (.bool false) w29)
 (I1 (wr (i4 + (1 : Int))) w29 ∧ μ1 (wr (i4 + (1 : Int))) w29 < μ1 i4 w3)) ∧
 ∀ w5 : World, w5 = World.drew w3 →
 ∃ S6 : World → Prop, S6 w5 ∧
 ∃ a7 : Addr, a_1.ptr = some a7 ∧ 0 ≤ i4 ∧ i4 < (a_1.len : Int) ∧
 ∃ n8 : Int, held S6 (Addr.add a7 (Int.toNat i4 * 4)) (.int .i64 n8) ∧
 ∃ a9 : Addr, b_2.ptr = some a9 ∧ 0 ≤ i4 ∧ i4 < (b_2.len : Int) ∧
 ∃ n10 : Int, held S6 (Addr.add a9 (Int.toNat i4 * 4)) (.int .i64 n10) ∧
 brB (n8 == n10)
 (∃ a11 : Addr, a_1.ptr = some a11 ∧ 0 ≤ i4 ∧ i4 < (a_1.len : Int) ∧
 ∃ n12 : Int, held S6 (Addr.add (Addr.add a11 (Int.toNat i4 * 4)) 1) (.int .i64 n12) ∧
 ∃ a13 : Addr, b_2.ptr = some a13 ∧ 0 ≤ i4 ∧ i4 < (b_2.len : Int) ∧
 ∃ n14 : Int, held S6 (Addr.add (Addr.add a13 (Int.toNat i4 * 4)) 1) (.int .i64 n14) ∧
 brB (n12 == n14)
 (∃ a15 : Addr, a_1.ptr = some a15 ∧ 0 ≤ i4 ∧ i4 < (a_1.len : Int) ∧
 ∃ s16 : Sl, held S6 (Addr.add (Addr.add a15 (Int.toNat i4 * 4)) 2) (s16.val) ∧
 ∃ a17 : Addr, b_2.ptr = some a17 ∧ 0 ≤ i4 ∧ i4 < (b_2.len : Int) ∧
 ∃ s18 : Sl, held S6 (Addr.add (Addr.add a17 (Int.toNat i4 * 4)) 2) (s18.val) ∧
 Calls Tryz.prog fn_hollowaybook_SameInts #[s16.val, s18.val] w5 fun e19 w20 => ∃ b21 : Bool, e19 = .returned (.bool b21) ∧
 S6 w20 ∧
 brB b21
 (∃ a22 : Addr, a_1.ptr = some a22 ∧ 0 ≤ i4 ∧ i4 < (a_1.len : Int) ∧
 ∃ s23 : Sl, held S6 (Addr.add (Addr.add a22 (Int.toNat i4 * 4)) 3) (s23.val) ∧
 ∃ a24 : Addr, b_2.ptr = some a24 ∧ 0 ≤ i4 ∧ i4 < (b_2.len : Int) ∧
 ∃ s25 : Sl, held S6 (Addr.add (Addr.add a24 (Int.toNat i4 * 4)) 3) (s25.val) ∧
 Calls Tryz.prog fn_hollowaybook_SameInts #[s23.val, s25.val] w20 fun e26 w27 => ∃ b28 : Bool, e26 = .returned (.bool b28) ∧
 J10 (!b28) w27)
 (J10 true w20))
 (J10 true w5))
 (J10 true w5))
 (K (.bool true) w3))
def hollowaybook_SameExits_an : An := ⟨[(4, [(5, .int .i64)])], [(6, (48, .st 0 (.st 1 (.st 2 (.st 3 (.st 4 (.st 5 (.st 6 (.st 7 (.st 8 (.st 9 (.st 10 (.st 11 (.st 12 (.st 13 (.st 14 (.st 15 (.st 16 (.st 17 (.st 18 (.st 19 (.st 20 (.st 21 (.st 22 (.st 23 (.st 24 (.st 25 (.st 26 (.st 27 (.st 28 (.st 29 (.st 30 (.st 31 (.st 32 (.st 33 (.st 34 (.ef 35 (.st 36 (.st 37 (.st 38 (.st 39 (.st 40 (.st 41 (.st 42 (.st 43 (.st 44 (.st 45 (.st 46 (.st 47 .done))))))))))))))))))))))))))))))))))))))))))))))), 1))], [(7, [(67, .bool)])]⟩
theorem hollowaybook_SameExits_lift {a_1 : Sl} {b_2 : Sl} {w : World} {K : Value → World → Prop} (h : hollowaybook_SameExits_sh a_1 b_2 w K) : Calls Tryz.prog fn_hollowaybook_SameExits #[a_1.val, b_2.val] w fun e w' => ∃ v, e = .returned v ∧ K v w' :=
   lift_calls (A := hollowaybook_SameExits_an) (c := bodyOf Tryz.f91) (args := [a_1.val, b_2.val]) orc orc_wide Tryz.func91 (by kernel_rfl) (by kernel_rfl) (Eq.mp (by kernel_rfl : hollowaybook_SameExits_sh a_1 b_2 w K = wpc orc Tryz.f91.ntmps hollowaybook_SameExits_an (bodyOf Tryz.f91) (argl 0 [a_1.val, b_2.val]) w (retQ orc Tryz.f91.results.toList K)) h)

def hollowaybook_Book_Codes_sh (b_1 : Nat) (l_2 : Sl) (w : World) (K : Value → World → Prop) : Prop :=
 ∃ s3 : Sl, w.cell? ⟨b_1, 8, none⟩ = some (s3.val) ∧
 brB (decide ((s3.len : Int) < (250 : Int)))
 (∃ s4 : Sl, w.cell? ⟨b_1, 8, none⟩ = some (s4.val) ∧
 ∀ (b5 : Nat) (w6 : World), b5 = w.heap.size → w6 = World.alloc w (.cells #[l_2.val] T_sl_api_Ins) →
 ∃ s7 : Sl, ∃ w8 : World, (Builtin.append_ #[T_sl_sl_api_Ins, T_sl_sl_api_Ins] T_sl_sl_api_Ins #[s4.val, .slice (some ⟨b5, 0, none⟩) 1 1]).run Tryz.prog w6 = .ok (s7.val) w8 ∧
 wrOk w8 ⟨b_1, 8, none⟩ 1 ∧ ∀ w9 : World, w9 = stW w8 ⟨b_1, 8, none⟩ 0 [s7.val] →
 ∀ w10 : World, w10 = World.drew w9 →
 ∃ S11 : World → Prop, S11 w10 ∧
 ∃ s12 : Sl, held S11 ⟨b_1, 9, none⟩ (s12.val) ∧
 Calls Tryz.prog fn_hollowaybook_copyCodes #[l_2.val] w10 fun e13 w14 => ∃ s15 : Sl, e13 = .returned (s15.val) ∧
 S11 w14 ∧
 ∀ (b16 : Nat) (w17 : World), b16 = w14.heap.size → w17 = World.alloc w14 (.cells #[s15.val] T_sl_api_Ins) →
 S11 w17 ∧
 ∃ s18 : Sl, ∃ w19 : World, (Builtin.append_ #[T_sl_sl_api_Ins, T_sl_sl_api_Ins] T_sl_sl_api_Ins #[s12.val, .slice (some ⟨b16, 0, none⟩) 1 1]).run Tryz.prog w17 = .ok (s18.val) w19 ∧
 S11 w19 ∧
 wrOk w19 ⟨b_1, 9, none⟩ 1 ∧ ∀ w20 : World, w20 = stW w19 ⟨b_1, 9, none⟩ 0 [s18.val] →
 K (.tuple #[]) w20)
 (K (.tuple #[]) w)
def hollowaybook_Book_Codes_an : An := ⟨[], [(2, (9, .st 0 (.st 1 (.st 2 (.st 3 (.st 4 (.st 5 (.ef 6 (.ef 7 (.ef 8 .done)))))))), 1))], []⟩
theorem hollowaybook_Book_Codes_lift {b_1 : Nat} {l_2 : Sl} {w : World} {K : Value → World → Prop} (h : hollowaybook_Book_Codes_sh b_1 l_2 w K) : Calls Tryz.prog fn_hollowaybook_Book_Codes #[.pointer (some ⟨b_1, 0, none⟩), l_2.val] w fun e w' => ∃ v, e = .returned v ∧ K v w' :=
   lift_calls (A := hollowaybook_Book_Codes_an) (c := bodyOf Tryz.f92) (args := [.pointer (some ⟨b_1, 0, none⟩), l_2.val]) orc orc_wide Tryz.func92 (by kernel_rfl) (by kernel_rfl) (Eq.mp (by kernel_rfl : hollowaybook_Book_Codes_sh b_1 l_2 w K = wpc orc Tryz.f92.ntmps hollowaybook_Book_Codes_an (bodyOf Tryz.f92) (argl 0 [.pointer (some ⟨b_1, 0, none⟩), l_2.val]) w (retQ orc Tryz.f92.results.toList K)) h)

def hollowaybook_Book_Exits_sh (b_1 : Nat) (l_2 : Sl) (w : World) (K : Value → World → Prop) : Prop :=
 ∃ s3 : Sl, w.cell? ⟨b_1, 10, none⟩ = some (s3.val) ∧
 brB (decide ((s3.len : Int) < (250 : Int)))
 (∃ s4 : Sl, w.cell? ⟨b_1, 10, none⟩ = some (s4.val) ∧
 ∀ (b5 : Nat) (w6 : World), b5 = w.heap.size → w6 = World.alloc w (.cells #[l_2.val] T_sl_api_Out) →
 ∃ s7 : Sl, ∃ w8 : World, (Builtin.append_ #[T_sl_sl_api_Out, T_sl_sl_api_Out] T_sl_sl_api_Out #[s4.val, .slice (some ⟨b5, 0, none⟩) 1 1]).run Tryz.prog w6 = .ok (s7.val) w8 ∧
 wrOk w8 ⟨b_1, 10, none⟩ 1 ∧ ∀ w9 : World, w9 = stW w8 ⟨b_1, 10, none⟩ 0 [s7.val] →
 ∀ w10 : World, w10 = World.drew w9 →
 ∃ S11 : World → Prop, S11 w10 ∧
 ∃ s12 : Sl, held S11 ⟨b_1, 11, none⟩ (s12.val) ∧
 Calls Tryz.prog fn_hollowaybook_copyExits #[l_2.val] w10 fun e13 w14 => ∃ s15 : Sl, e13 = .returned (s15.val) ∧
 S11 w14 ∧
 ∀ (b16 : Nat) (w17 : World), b16 = w14.heap.size → w17 = World.alloc w14 (.cells #[s15.val] T_sl_api_Out) →
 S11 w17 ∧
 ∃ s18 : Sl, ∃ w19 : World, (Builtin.append_ #[T_sl_sl_api_Out, T_sl_sl_api_Out] T_sl_sl_api_Out #[s12.val, .slice (some ⟨b16, 0, none⟩) 1 1]).run Tryz.prog w17 = .ok (s18.val) w19 ∧
 S11 w19 ∧
 wrOk w19 ⟨b_1, 11, none⟩ 1 ∧ ∀ w20 : World, w20 = stW w19 ⟨b_1, 11, none⟩ 0 [s18.val] →
 K (.tuple #[]) w20)
 (K (.tuple #[]) w)
def hollowaybook_Book_Exits_an : An := ⟨[], [(2, (9, .st 0 (.st 1 (.st 2 (.st 3 (.st 4 (.st 5 (.ef 6 (.ef 7 (.ef 8 .done)))))))), 1))], []⟩
theorem hollowaybook_Book_Exits_lift {b_1 : Nat} {l_2 : Sl} {w : World} {K : Value → World → Prop} (h : hollowaybook_Book_Exits_sh b_1 l_2 w K) : Calls Tryz.prog fn_hollowaybook_Book_Exits #[.pointer (some ⟨b_1, 0, none⟩), l_2.val] w fun e w' => ∃ v, e = .returned v ∧ K v w' :=
   lift_calls (A := hollowaybook_Book_Exits_an) (c := bodyOf Tryz.f93) (args := [.pointer (some ⟨b_1, 0, none⟩), l_2.val]) orc orc_wide Tryz.func93 (by kernel_rfl) (by kernel_rfl) (Eq.mp (by kernel_rfl : hollowaybook_Book_Exits_sh b_1 l_2 w K = wpc orc Tryz.f93.ntmps hollowaybook_Book_Exits_an (bodyOf Tryz.f93) (argl 0 [.pointer (some ⟨b_1, 0, none⟩), l_2.val]) w (retQ orc Tryz.f93.results.toList K)) h)

def hollowaybook_copyCodes_sh (l_1 : Sl) (w : World) (K : Value → World → Prop) : Prop :=
 ∃ s2 : Sl, ∃ w3 : World, (Builtin.append_ #[T_sl_api_Ins, T_sl_api_Ins] T_sl_api_Ins #[.slice none 0 0, l_1.val]).run Tryz.prog w = .ok (s2.val) w3 ∧
 K (s2.val) w3
def hollowaybook_copyCodes_an : An := ⟨[], [], []⟩
theorem hollowaybook_copyCodes_lift {l_1 : Sl} {w : World} {K : Value → World → Prop} (h : hollowaybook_copyCodes_sh l_1 w K) : Calls Tryz.prog fn_hollowaybook_copyCodes #[l_1.val] w fun e w' => ∃ v, e = .returned v ∧ K v w' :=
   lift_calls (A := hollowaybook_copyCodes_an) (c := bodyOf Tryz.f98) (args := [l_1.val]) orc orc_wide Tryz.func98 (by kernel_rfl) (by kernel_rfl) (Eq.mp (by kernel_rfl : hollowaybook_copyCodes_sh l_1 w K = wpc orc Tryz.f98.ntmps hollowaybook_copyCodes_an (bodyOf Tryz.f98) (argl 0 [l_1.val]) w (retQ orc Tryz.f98.results.toList K)) h)

def hollowaybook_copyExits_sh (l_1 : Sl) (w : World) (K : Value → World → Prop) : Prop :=
 ∃ s2 : Sl, ∃ w3 : World, (Builtin.append_ #[T_sl_api_Out, T_sl_api_Out] T_sl_api_Out #[.slice none 0 0, l_1.val]).run Tryz.prog w = .ok (s2.val) w3 ∧
 ∃ (I1 : Int → World → Prop) (μ1 : Int → World → Nat), I1 (0 : Int) w3 ∧ ∀ (i5 : Int) (w4 : World), I1 i5 w4 →
 brB (decide (i5 < (s2.len : Int)))
 (∀ w6 : World, w6 = World.drew w4 →
 ∃ S7 R8 : World → Prop, (∀ w9 : World, S7 w9 → R8 w9) ∧ S7 w6 ∧
 ∃ a10 : Addr, s2.ptr = some a10 ∧ 0 ≤ i5 ∧ i5 < (s2.len : Int) ∧
 ∃ s11 : Sl, held S7 (Addr.add (Addr.add a10 (Int.toNat i5 * 4)) 2) (s11.val) ∧
 ∃ a12 : Addr, s2.ptr = some a12 ∧ 0 ≤ i5 ∧ i5 < (s2.len : Int) ∧
 ∃ s13 : Sl, held R8 (Addr.add (Addr.add a12 (Int.toNat i5 * 4)) 3) (s13.val) ∧
 Calls Tryz.prog fn_hollowaybook_copyInts #[s11.val] w6 fun e14 w15 => ∃ s16 : Sl, e14 = .returned (s16.val) ∧
 R8 w15 ∧
 Calls Tryz.prog fn_hollowaybook_copyInts #[s13.val] w15 fun e17 w18 => ∃ s19 : Sl, e17 = .returned (s19.val) ∧
 R8 w18 ∧
 ∃ a20 : Addr, s2.ptr = some a20 ∧ 0 ≤ i5 ∧ i5 < (s2.len : Int) ∧
 wrOk w18 (Addr.add (Addr.add a20 (Int.toNat i5 * 4)) 2) 1 ∧ ∀ w21 : World, w21 = stW w18 (Addr.add (Addr.add a20 (Int.toNat i5 * 4)) 2) 0 [s16.val] →
 R8 w21 ∧
 ∃ a22 : Addr, s2.ptr = some a22 ∧ 0 ≤ i5 ∧ i5 < (s2.len : Int) ∧
 wrOk w21 (Addr.add (Addr.add a22 (Int.toNat i5 * 4)) 3) 1 ∧ ∀ w23 : World, w23 = stW w21 (Addr.add (Addr.add a22 (Int.toNat i5 * 4)) 3) 0 [s19.val] →
 I1 (wr (i5 + (1 : Int))) w23 ∧ μ1 (wr (i5 + (1 : Int))) w23 < μ1 i5 w4)
 (K (s2.val) w4)
def hollowaybook_copyExits_an : An := ⟨[(3, [(3, .int .i64)])], [(5, (19, .st 0 (.st 1 (.st 2 (.st 3 (.st 4 (.st 5 (.st 6 (.st 7 (.st 8 (.st 10 (.st 11 (.st 12 (.st 13 (.st 14 (.ef 9 (.ef 15 (.st 16 (.st 17 (.ef 18 .done)))))))))))))))))), 12))], []⟩
theorem hollowaybook_copyExits_lift {l_1 : Sl} {w : World} {K : Value → World → Prop} (h : hollowaybook_copyExits_sh l_1 w K) : Calls Tryz.prog fn_hollowaybook_copyExits #[l_1.val] w fun e w' => ∃ v, e = .returned v ∧ K v w' :=
   lift_calls (A := hollowaybook_copyExits_an) (c := bodyOf Tryz.f99) (args := [l_1.val]) orc orc_wide Tryz.func99 (by kernel_rfl) (by kernel_rfl) (Eq.mp (by kernel_rfl : hollowaybook_copyExits_sh l_1 w K = wpc orc Tryz.f99.ntmps hollowaybook_copyExits_an (bodyOf Tryz.f99) (argl 0 [l_1.val]) w (retQ orc Tryz.f99.results.toList K)) h)

def hollowaybook_markExits_sh (i_1 : Int) (from_2 : Int) (n_3 : Int) (w : World) (K : Value → World → Prop) : Prop :=
 ∃ (I1 : Sl → Int → World → Prop) (μ1 : Sl → Int → World → Nat), I1 (⟨none, 0, 0⟩ : Sl) from_2 w ∧ ∀ (out6 : Sl) (k5 : Int) (w4 : World), I1 out6 k5 w4 →
 brB (decide (k5 < (wr (from_2 + n_3))))
 (∀ (b7 : Nat) (w8 : World), b7 = w4.heap.size → w8 = World.alloc w4 (.cells #[.int .i64 (wr ((wr ((wr ((-1000 : Int) * i_1)) - k5)) - (1 : Int))), .int .i64 (0 : Int), .slice none 0 0, .slice none 0 0] T_api_Out) →
 ∃ s9 : Sl, ∃ w10 : World, (Builtin.append_ #[T_sl_api_Out, T_sl_api_Out] T_sl_api_Out #[out6.val, .slice (some ⟨b7, 0, none⟩) 1 1]).run Tryz.prog w8 = .ok (s9.val) w10 ∧
 I1 s9 (wr (k5 + (1 : Int))) w10 ∧ μ1 s9 (wr (k5 + (1 : Int))) w10 < μ1 out6 k5 w4)
 (K (out6.val) w4)
def hollowaybook_markExits_an : An := ⟨[(3, [(7, .sl), (8, .int .i64)])], [], []⟩
theorem hollowaybook_markExits_lift {i_1 : Int} {from_2 : Int} {n_3 : Int} {w : World} {K : Value → World → Prop} (h : hollowaybook_markExits_sh i_1 from_2 n_3 w K) : Calls Tryz.prog fn_hollowaybook_markExits #[.int .i64 i_1, .int .i64 from_2, .int .i64 n_3] w fun e w' => ∃ v, e = .returned v ∧ K v w' :=
   lift_calls (A := hollowaybook_markExits_an) (c := bodyOf Tryz.f108) (args := [.int .i64 i_1, .int .i64 from_2, .int .i64 n_3]) orc orc_wide Tryz.func108 (by kernel_rfl) (by kernel_rfl) (Eq.mp (by kernel_rfl : hollowaybook_markExits_sh i_1 from_2 n_3 w K = wpc orc Tryz.f108.ntmps hollowaybook_markExits_an (bodyOf Tryz.f108) (argl 0 [.int .i64 i_1, .int .i64 from_2, .int .i64 n_3]) w (retQ orc Tryz.f108.results.toList K)) h)

def hollowaybook_markInts_sh (i_1 : Int) (from_2 : Int) (n_3 : Int) (w : World) (K : Value → World → Prop) : Prop :=
 ∃ (I1 : Sl → Int → World → Prop) (μ1 : Sl → Int → World → Nat), I1 (⟨none, 0, 0⟩ : Sl) from_2 w ∧ ∀ (out6 : Sl) (k5 : Int) (w4 : World), I1 out6 k5 w4 →
 brB (decide (k5 < (wr (from_2 + n_3))))
 (∀ (b7 : Nat) (w8 : World), b7 = w4.heap.size → w8 = World.alloc w4 (.cells #[.int .i64 (wr ((wr ((wr ((-1000000 : Int) * i_1)) - k5)) - (7 : Int)))] T_int) →
 ∃ s9 : Sl, ∃ w10 : World, (Builtin.append_ #[T_sl_int, T_sl_int] T_sl_int #[out6.val, .slice (some ⟨b7, 0, none⟩) 1 1]).run Tryz.prog w8 = .ok (s9.val) w10 ∧
 I1 s9 (wr (k5 + (1 : Int))) w10 ∧ μ1 s9 (wr (k5 + (1 : Int))) w10 < μ1 out6 k5 w4)
 (K (out6.val) w4)
def hollowaybook_markInts_an : An := ⟨[(3, [(7, .sl), (8, .int .i64)])], [], []⟩
theorem hollowaybook_markInts_lift {i_1 : Int} {from_2 : Int} {n_3 : Int} {w : World} {K : Value → World → Prop} (h : hollowaybook_markInts_sh i_1 from_2 n_3 w K) : Calls Tryz.prog fn_hollowaybook_markInts #[.int .i64 i_1, .int .i64 from_2, .int .i64 n_3] w fun e w' => ∃ v, e = .returned v ∧ K v w' :=
   lift_calls (A := hollowaybook_markInts_an) (c := bodyOf Tryz.f110) (args := [.int .i64 i_1, .int .i64 from_2, .int .i64 n_3]) orc orc_wide Tryz.func110 (by kernel_rfl) (by kernel_rfl) (Eq.mp (by kernel_rfl : hollowaybook_markInts_sh i_1 from_2 n_3 w K = wpc orc Tryz.f110.ntmps hollowaybook_markInts_an (bodyOf Tryz.f110) (argl 0 [.int .i64 i_1, .int .i64 from_2, .int .i64 n_3]) w (retQ orc Tryz.f110.results.toList K)) h)

def hollowaybook_markCodes_sh (i_1 : Int) (from_2 : Int) (n_3 : Int) (w : World) (K : Value → World → Prop) : Prop :=
 ∃ (I1 : Sl → Int → World → Prop) (μ1 : Sl → Int → World → Nat), I1 (⟨none, 0, 0⟩ : Sl) from_2 w ∧ ∀ (out6 : Sl) (k5 : Int) (w4 : World), I1 out6 k5 w4 →
 brB (decide (k5 < (wr (from_2 + n_3))))
 (∀ (b7 : Nat) (w8 : World), b7 = w4.heap.size → w8 = World.alloc w4 (.cells #[.int .i64 (wr ((wr ((wr ((-1000 : Int) * i_1)) - k5)) - (1 : Int))), .int .i64 (0 : Int), .int .i64 (0 : Int), .int .i64 (0 : Int), .int .i64 (0 : Int)] T_api_Ins) →
 ∃ s9 : Sl, ∃ w10 : World, (Builtin.append_ #[T_sl_api_Ins, T_sl_api_Ins] T_sl_api_Ins #[out6.val, .slice (some ⟨b7, 0, none⟩) 1 1]).run Tryz.prog w8 = .ok (s9.val) w10 ∧
 I1 s9 (wr (k5 + (1 : Int))) w10 ∧ μ1 s9 (wr (k5 + (1 : Int))) w10 < μ1 out6 k5 w4)
 (K (out6.val) w4)
def hollowaybook_markCodes_an : An := ⟨[(3, [(7, .sl), (8, .int .i64)])], [], []⟩
theorem hollowaybook_markCodes_lift {i_1 : Int} {from_2 : Int} {n_3 : Int} {w : World} {K : Value → World → Prop} (h : hollowaybook_markCodes_sh i_1 from_2 n_3 w K) : Calls Tryz.prog fn_hollowaybook_markCodes #[.int .i64 i_1, .int .i64 from_2, .int .i64 n_3] w fun e w' => ∃ v, e = .returned v ∧ K v w' :=
   lift_calls (A := hollowaybook_markCodes_an) (c := bodyOf Tryz.f113) (args := [.int .i64 i_1, .int .i64 from_2, .int .i64 n_3]) orc orc_wide Tryz.func113 (by kernel_rfl) (by kernel_rfl) (Eq.mp (by kernel_rfl : hollowaybook_markCodes_sh i_1 from_2 n_3 w K = wpc orc Tryz.f113.ntmps hollowaybook_markCodes_an (bodyOf Tryz.f113) (argl 0 [.int .i64 i_1, .int .i64 from_2, .int .i64 n_3]) w (retQ orc Tryz.f113.results.toList K)) h)

end Go.Proofs.YtblmoilneiffgaaGreat
