/- Functions of Hollowayref9, read without their frames; that each is enough. Printed by a program of mine (wip/lift/gen.py). -/
import Derived.Test.YtblmoilneiffgaaOrc
set_option maxRecDepth 100000
namespace Go.Proofs.Ytblmoilneiffgaa
open Go.RowKit

-- holloway/hollowayref9.Right
def hollowayref9_Right_sh (s__Ip1 : Int) (s__Handler2 : Int) (s__Stack3 : Sl) (s__Back4 : Sl) (s__Mem5 : Sl) (s__Out6 : ByteArray) (s__In7 : ByteArray) (s__Read8 : Int) (s__Status9 : Int) (s__Code10 : Int) (w : World) (K : Value → World → Prop) : Prop :=
 ∀ (b11 : Nat) (w12 : World), b11 = w.heap.size → w12 = World.alloc w (.cells #[.int .i64 s__Ip1, .int .i64 s__Handler2, s__Stack3.val, s__Back4.val, s__Mem5.val, .string s__Out6, .string s__In7, .int .i64 s__Read8, .int .i64 s__Status9, .int .i64 s__Code10] T_api_State) →
 ∃ s13 : Sl, w12.cell? ⟨b11, 2, none⟩ = some (s13.val) ∧
 brB (decide ((s13.len : Int) ≤ (48 : Int)))
 (∃ s14 : Sl, w12.cell? ⟨b11, 3, none⟩ = some (s14.val) ∧
 brB (decide ((s14.len : Int) ≤ (48 : Int)))
 (∃ s15 : Sl, w12.cell? ⟨b11, 4, none⟩ = some (s15.val) ∧
 brB (decide ((s15.len : Int) ≤ (3000 : Int)))
 (∃ t16 : ByteArray, w12.cell? ⟨b11, 5, none⟩ = some (.string t16) ∧
 brB (decide ((t16.size : Int) ≤ (2000 : Int)))
 (∃ n17 : Int, w12.cell? ⟨b11, 7, none⟩ = some (.int .i64 n17) ∧
 brB (decide (n17 ≥ (0 : Int)))
 (∃ n18 : Int, w12.cell? ⟨b11, 7, none⟩ = some (.int .i64 n18) ∧
 ∃ t19 : ByteArray, w12.cell? ⟨b11, 6, none⟩ = some (.string t19) ∧
 brB (decide (n18 ≤ (t19.size : Int)))
 (∃ n20 : Int, w12.cell? ⟨b11, 8, none⟩ = some (.int .i64 n20) ∧
 brB (decide (n20 ≥ (0 : Int)))
 (∃ n21 : Int, w12.cell? ⟨b11, 8, none⟩ = some (.int .i64 n21) ∧
 K (.bool (decide (n21 ≤ (2 : Int)))) w12)
 (K (.bool false) w12))
 (K (.bool false) w12))
 (K (.bool false) w12))
 (K (.bool false) w12))
 (K (.bool false) w12))
 (K (.bool false) w12))
 (K (.bool false) w12)
def hollowayref9_Right_an : An := ⟨[], [], []⟩
theorem hollowayref9_Right_lift {s__Ip1 : Int} {s__Handler2 : Int} {s__Stack3 : Sl} {s__Back4 : Sl} {s__Mem5 : Sl} {s__Out6 : ByteArray} {s__In7 : ByteArray} {s__Read8 : Int} {s__Status9 : Int} {s__Code10 : Int} {w : World} {K : Value → World → Prop} (h : hollowayref9_Right_sh s__Ip1 s__Handler2 s__Stack3 s__Back4 s__Mem5 s__Out6 s__In7 s__Read8 s__Status9 s__Code10 w K) : Calls Try.prog fn_hollowayref9_Right #[.agg #[.int .i64 s__Ip1, .int .i64 s__Handler2, s__Stack3.val, s__Back4.val, s__Mem5.val, .string s__Out6, .string s__In7, .int .i64 s__Read8, .int .i64 s__Status9, .int .i64 s__Code10]] w fun e w' => ∃ v, e = .returned v ∧ K v w' :=
   lift_calls (A := hollowayref9_Right_an) (c := bodyOf Try.f46) (args := [.agg #[.int .i64 s__Ip1, .int .i64 s__Handler2, s__Stack3.val, s__Back4.val, s__Mem5.val, .string s__Out6, .string s__In7, .int .i64 s__Read8, .int .i64 s__Status9, .int .i64 s__Code10]]) orc orc_wide Try.func46 (by kernel_rfl) (by kernel_rfl) (Eq.mp (by kernel_rfl : hollowayref9_Right_sh s__Ip1 s__Handler2 s__Stack3 s__Back4 s__Mem5 s__Out6 s__In7 s__Read8 s__Status9 s__Code10 w K = wpc orc Try.f46.ntmps hollowayref9_Right_an (bodyOf Try.f46) (argl 0 [.agg #[.int .i64 s__Ip1, .int .i64 s__Handler2, s__Stack3.val, s__Back4.val, s__Mem5.val, .string s__Out6, .string s__In7, .int .i64 s__Read8, .int .i64 s__Status9, .int .i64 s__Code10]]) w (retQ orc Try.f46.results.toList K)) h)

-- holloway/hollowayref9.Boot
def hollowayref9_Boot_sh (n_1 : Int) (in_2 : ByteArray) (w : World) (K : Value → World → Prop) : Prop :=
 ∀ (b3 : Nat) (w4 : World), b3 = w.heap.size → w4 = World.alloc w (.cells #[.int .i64 (0 : Int), .int .i64 (0 : Int), .slice none 0 0, .slice none 0 0, .slice none 0 0, .string (bs []), .string (bs []), .int .i64 (0 : Int), .int .i64 (0 : Int), .int .i64 (0 : Int)] T_api_State) →
 ∃ s5 : Sl, ∃ w6 : World, (Instr.makeSlice T_sl_int (.int .i64 (imin (imax n_1 (0 : Int)) (3000 : Int))) (.int .i64 (imin (imax n_1 (0 : Int)) (3000 : Int)))).run Try.prog w4 = .ok s5.val w6 ∧
 ∃ (I1 : Int → World → Prop) (μ1 : Int → World → Nat), I1 (0 : Int) w6 ∧ ∀ (k8 : Int) (w7 : World), I1 k8 w7 →
 brB (decide (k8 < (s5.len : Int)))
 (∃ J7 : World → Prop, (∀ (w18 : World), J7  w18 →
 I1 (wr (k8 + (1 : Int))) w18 ∧ μ1 (wr (k8 + (1 : Int))) w18 < μ1 k8 w7) ∧
 ∃ J8 : World → Prop, (∀ (w11 : World), J8  w11 →
 ∃ J10 : Bool → World → Prop, (∀ (b13 : Bool) (w12 : World), J10 b13 w12 →
 brB b13
 (∃ a14 : Addr, s5.ptr = some a14 ∧ 0 ≤ k8 ∧ k8 < (s5.len : Int) ∧
 wrOk w12 (Addr.add a14 (Int.toNat k8 * 1)) 1 ∧ ∀ w15 : World, w15 = stW w12 (Addr.add a14 (Int.toNat k8 * 1)) 0 [.int .i64 (5 : Int)] →
 (2 : Int) ≠ 0 ∧ brB ((Int.tmod k8 (2 : Int)) == (0 : Int))
 ((2 : Int) ≠ 0 ∧ ∃ a16 : Addr, s5.ptr = some a16 ∧ 0 ≤ k8 ∧ k8 < (s5.len : Int) ∧
 wrOk w15 (Addr.add a16 (Int.toNat k8 * 1)) 1 ∧ ∀ w17 : World, w17 = stW w15 (Addr.add a16 (Int.toNat k8 * 1)) 0 [.int .i64 (wr (Int.tdiv (wr (k8 - (64 : Int))) (2 : Int)))] →
 J7  w17)
 (J7  w15))
 (J7  w12)) ∧
 brB (decide (k8 ≥ (64 : Int)))
 (J10 (decide (k8 < (160 : Int))) w11)
 (J10 false w11)) ∧
 brB (k8 == (1 : Int))
 (∃ a9 : Addr, s5.ptr = some a9 ∧ 0 ≤ k8 ∧ k8 < (s5.len : Int) ∧
 wrOk w7 (Addr.add a9 (Int.toNat k8 * 1)) 1 ∧ ∀ w10 : World, w10 = stW w7 (Addr.add a9 (Int.toNat k8 * 1)) 0 [.int .i64 (1 : Int)] →
 J8  w10)
 (J8  w7))
 (wrOk w7 ⟨b3, 0, none⟩ 10 ∧ ∀ w19 : World, w19 = stW w7 ⟨b3, 0, none⟩ 0 [.int .i64 (0 : Int), .int .i64 (0 : Int), .slice none 0 0, .slice none 0 0, s5.val, .string (bs []), .string in_2, .int .i64 (0 : Int), .int .i64 (1 : Int), .int .i64 (0 : Int)] →
 ∃ r_Ip20 : Int, ∃ r_Handler21 : Int, ∃ r_Stack22 : Sl, ∃ r_Back23 : Sl, ∃ r_Mem24 : Sl, ∃ r_Out25 : ByteArray, ∃ r_In26 : ByteArray, ∃ r_Read27 : Int, ∃ r_Status28 : Int, ∃ r_Code29 : Int, w19.cell? ⟨b3, 0, none⟩ = some (.int .i64 r_Ip20) ∧ w19.cell? ⟨b3, 1, none⟩ = some (.int .i64 r_Handler21) ∧ w19.cell? ⟨b3, 2, none⟩ = some (r_Stack22.val) ∧ w19.cell? ⟨b3, 3, none⟩ = some (r_Back23.val) ∧ w19.cell? ⟨b3, 4, none⟩ = some (r_Mem24.val) ∧ w19.cell? ⟨b3, 5, none⟩ = some (.string r_Out25) ∧ w19.cell? ⟨b3, 6, none⟩ = some (.string r_In26) ∧ w19.cell? ⟨b3, 7, none⟩ = some (.int .i64 r_Read27) ∧ w19.cell? ⟨b3, 8, none⟩ = some (.int .i64 r_Status28) ∧ w19.cell? ⟨b3, 9, none⟩ = some (.int .i64 r_Code29) ∧
 K (.agg #[.int .i64 r_Ip20, .int .i64 r_Handler21, r_Stack22.val, r_Back23.val, r_Mem24.val, .string r_Out25, .string r_In26, .int .i64 r_Read27, .int .i64 r_Status28, .int .i64 r_Code29]) w19)
def hollowayref9_Boot_an : An := ⟨[(3, [(6, .int .i64)])], [], [(8, [(27, .bool)]), (7, []), (4, [])]⟩
theorem hollowayref9_Boot_lift {n_1 : Int} {in_2 : ByteArray} {w : World} {K : Value → World → Prop} (h : hollowayref9_Boot_sh n_1 in_2 w K) : Calls Try.prog fn_hollowayref9_Boot #[.int .i64 n_1, .string in_2] w fun e w' => ∃ v, e = .returned v ∧ K v w' :=
   lift_calls (A := hollowayref9_Boot_an) (c := bodyOf Try.f54) (args := [.int .i64 n_1, .string in_2]) orc orc_wide Try.func54 (by kernel_rfl) (by kernel_rfl) (Eq.mp (by kernel_rfl : hollowayref9_Boot_sh n_1 in_2 w K = wpc orc Try.f54.ntmps hollowayref9_Boot_an (bodyOf Try.f54) (argl 0 [.int .i64 n_1, .string in_2]) w (retQ orc Try.f54.results.toList K)) h)

end Go.Proofs.Ytblmoilneiffgaa
