/- The lifted texts of the packages hollowayref9 and hollowaylaw9. -/
import Derived.Test.YtkjpmkopnkkbmaaJ4

/- Functions of Hollowayref9, read without their frames; that each is enough. Printed by a program of mine (wip/lift/gen.py). -/
set_option maxRecDepth 100000
namespace Go.Proofs.Ytkjpmkopnkkbmaa
open Go.RowKit

-- holloway/hollowayref9.Right
def hollowayref9_Right_sh (s__Ip1 : Int) (s__Handler2 : Int) (s__Stack3 : Sl) (s__Back4 : Sl) (s__Mem5 : Sl) (s__Out6 : ByteArray) (s__In7 : ByteArray) (s__Read8 : Int) (s__Status9 : Int) (s__Code10 : Int) (w : World) (K : Value → World → Prop) : Prop :=
 ∀ (b11 : Nat) (w12 : World), b11 = w.heap.size → w12 = World.alloc w (.cells #[.int .i64 s__Ip1, .int .i64 s__Handler2, s__Stack3.val, s__Back4.val, s__Mem5.val, .string s__Out6, .string s__In7, .int .i64 s__Read8, .int .i64 s__Status9, .int .i64 s__Code10] T_api_State) →
 ∃ s13 : Sl, w12.cell? ⟨b11, 2, none⟩ = some (s13.val) ∧
 brB (decide ((s13.len : Int) ≤ (48 : Int)))
 (∃ s14 : Sl, w12.cell? ⟨b11, 3, none⟩ = some (s14.val) ∧
 brB (decide ((s14.len : Int) ≤ (48 : Int)))
 (∃ s15 : Sl, w12.cell? ⟨b11, 4, none⟩ = some (s15.val) ∧
 brB (decide ((s15.len : Int) ≤ (3000 : Int)))
 (∃ t16 : ByteArray, w12.cell? ⟨b11, 5, none⟩ = some (.string t16) ∧
 brB (decide ((t16.size : Int) ≤ (2000 : Int)))
 (∃ n17 : Int, w12.cell? ⟨b11, 7, none⟩ = some (.int .i64 n17) ∧
 brB (decide (n17 ≥ (0 : Int)))
 (∃ n18 : Int, w12.cell? ⟨b11, 7, none⟩ = some (.int .i64 n18) ∧
 ∃ t19 : ByteArray, w12.cell? ⟨b11, 6, none⟩ = some (.string t19) ∧
 brB (decide (n18 ≤ (t19.size : Int)))
 (∃ n20 : Int, w12.cell? ⟨b11, 8, none⟩ = some (.int .i64 n20) ∧
 brB (decide (n20 ≥ (0 : Int)))
 (∃ n21 : Int, w12.cell? ⟨b11, 8, none⟩ = some (.int .i64 n21) ∧
 K (.bool (decide (n21 ≤ (2 : Int)))) w12)
 (K (.bool false) w12))
 (K (.bool false) w12))
 (K (.bool false) w12))
 (K (.bool false) w12))
 (K (.bool false) w12))
 (K (.bool false) w12))
 (K (.bool false) w12)
def hollowayref9_Right_an : An := ⟨[], [], []⟩
theorem hollowayref9_Right_lift {s__Ip1 : Int} {s__Handler2 : Int} {s__Stack3 : Sl} {s__Back4 : Sl} {s__Mem5 : Sl} {s__Out6 : ByteArray} {s__In7 : ByteArray} {s__Read8 : Int} {s__Status9 : Int} {s__Code10 : Int} {w : World} {K : Value → World → Prop} (h : hollowayref9_Right_sh s__Ip1 s__Handler2 s__Stack3 s__Back4 s__Mem5 s__Out6 s__In7 s__Read8 s__Status9 s__Code10 w K) : Calls Try.prog fn_hollowayref9_Right #[.agg #[.int .i64 s__Ip1, .int .i64 s__Handler2, s__Stack3.val, s__Back4.val, s__Mem5.val, .string s__Out6, .string s__In7, .int .i64 s__Read8, .int .i64 s__Status9, .int .i64 s__Code10]] w fun e w' => ∃ v, e = .returned v ∧ K v w' :=
   lift_calls (A := hollowayref9_Right_an) (c := bodyOf Try.f4) (args := [.agg #[.int .i64 s__Ip1, .int .i64 s__Handler2, s__Stack3.val, s__Back4.val, s__Mem5.val, .string s__Out6, .string s__In7, .int .i64 s__Read8, .int .i64 s__Status9, .int .i64 s__Code10]]) orc orc_wide Try.func4 (by kernel_rfl) (by kernel_rfl) (Eq.mp (by kernel_rfl : hollowayref9_Right_sh s__Ip1 s__Handler2 s__Stack3 s__Back4 s__Mem5 s__Out6 s__In7 s__Read8 s__Status9 s__Code10 w K = wpc orc Try.f4.ntmps hollowayref9_Right_an (bodyOf Try.f4) (argl 0 [.agg #[.int .i64 s__Ip1, .int .i64 s__Handler2, s__Stack3.val, s__Back4.val, s__Mem5.val, .string s__Out6, .string s__In7, .int .i64 s__Read8, .int .i64 s__Status9, .int .i64 s__Code10]]) w (retQ orc Try.f4.results.toList K)) h)

-- holloway/hollowayref9.Record
def hollowayref9_Record_j1 (J3 : World → Prop) (b12 : Nat) (b69 : Nat) (n39 : Int) (b18 : Nat) (I1 : World → Prop) (μ1 : World → Nat) (w21 : World) (b91 : Bool) (w90 : World) (_K : Value → World → Prop) : Prop :=
 brB b91
 (J3  w90)
 (∃ n92 : Int, w90.cell? ⟨b12, 0, none⟩ = some (.int .i64 n92) ∧
 ∃ n93 : Int, w90.cell? ⟨b69, 0, none⟩ = some (.int .i64 n93) ∧
 ∀ (b94 : Nat) (w95 : World), b94 = w90.heap.size → w95 = World.alloc w90 (.cells #[.int .i64 (0 : Int), .int .i64 (0 : Int), .int .i64 (0 : Int), .int .i64 (0 : Int)] T_api_Seen) →
 wrOk w95 ⟨b94, 0, none⟩ 4 ∧ ∀ w96 : World, w96 = stW w95 ⟨b94, 0, none⟩ 0 [.int .i64 n92, .int .i64 n39, .int .i64 (0 : Int), .int .i64 n93] →
 ∃ J15 : World → Prop, (∀ (w105 : World), J15  w105 →
 ∃ s106 : Sl, w105.cell? ⟨b18, 3, none⟩ = some (s106.val) ∧
 ∃ n_Ip107 : Int, ∃ n_Cell108 : Int, ∃ n_Arg109 : Int, ∃ n_Next110 : Int, w105.cell? ⟨b94, 0, none⟩ = some (.int .i64 n_Ip107) ∧ w105.cell? ⟨b94, 1, none⟩ = some (.int .i64 n_Cell108) ∧ w105.cell? ⟨b94, 2, none⟩ = some (.int .i64 n_Arg109) ∧ w105.cell? ⟨b94, 3, none⟩ = some (.int .i64 n_Next110) ∧
 ∀ (b111 : Nat) (w112 : World), b111 = w105.heap.size → w112 = World.alloc w105 (.cells #[.int .i64 n_Ip107, .int .i64 n_Cell108, .int .i64 n_Arg109, .int .i64 n_Next110] T_api_Seen) →
 ∃ s113 : Sl, ∃ w114 : World, (Builtin.append_ #[T_sl_api_Seen, T_sl_api_Seen] T_sl_api_Seen #[s106.val, .slice (some ⟨b111, 0, none⟩) 1 1]).run Try.prog w112 = .ok (s113.val) w114 ∧
 wrOk w114 ⟨b18, 3, none⟩ 1 ∧ ∀ w115 : World, w115 = stW w114 ⟨b18, 3, none⟩ 0 [s113.val] →
 ∃ n_Ip116 : Int, ∃ n_Handler117 : Int, ∃ s_Stack118 : Sl, ∃ s_Back119 : Sl, ∃ s_Mem120 : Sl, ∃ t_Out121 : ByteArray, ∃ t_In122 : ByteArray, ∃ n_Read123 : Int, ∃ n_Status124 : Int, ∃ n_Code125 : Int, w115.cell? ⟨b69, 0, none⟩ = some (.int .i64 n_Ip116) ∧ w115.cell? ⟨b69, 1, none⟩ = some (.int .i64 n_Handler117) ∧ w115.cell? ⟨b69, 2, none⟩ = some (s_Stack118.val) ∧ w115.cell? ⟨b69, 3, none⟩ = some (s_Back119.val) ∧ w115.cell? ⟨b69, 4, none⟩ = some (s_Mem120.val) ∧ w115.cell? ⟨b69, 5, none⟩ = some (.string t_Out121) ∧ w115.cell? ⟨b69, 6, none⟩ = some (.string t_In122) ∧ w115.cell? ⟨b69, 7, none⟩ = some (.int .i64 n_Read123) ∧ w115.cell? ⟨b69, 8, none⟩ = some (.int .i64 n_Status124) ∧ w115.cell? ⟨b69, 9, none⟩ = some (.int .i64 n_Code125) ∧
 wrOk w115 ⟨b12, 0, none⟩ 10 ∧ ∀ w126 : World, w126 = stW w115 ⟨b12, 0, none⟩ 0 [.int .i64 n_Ip116, .int .i64 n_Handler117, s_Stack118.val, s_Back119.val, s_Mem120.val, .string t_Out121, .string t_In122, .int .i64 n_Read123, .int .i64 n_Status124, .int .i64 n_Code125] →
 ∃ n127 : Int, w126.cell? ⟨b12, 0, none⟩ = some (.int .i64 n127) ∧
 wrOk w126 ⟨b18, 1, none⟩ 1 ∧ ∀ w128 : World, w128 = stW w126 ⟨b18, 1, none⟩ 0 [.int .i64 n127] →
 ∃ n129 : Int, w128.cell? ⟨b12, 0, none⟩ = some (.int .i64 n129) ∧
 ∃ n130 : Int, w128.cell? ⟨b18, 0, none⟩ = some (.int .i64 n130) ∧
 wrOk w128 ⟨b18, 2, none⟩ 1 ∧ ∀ w131 : World, w131 = stW w128 ⟨b18, 2, none⟩ 0 [.bool (n129 == n130)] →
 I1  w131 ∧ μ1  w131 < μ1  w21) ∧
 Calls Try.prog fn_hollowayref1_Arg #[.int .i64 n39] w96 fun e97 w98 => ∃ b99 : Bool, e97 = .returned (.bool b99) ∧
 brB b99
 (∃ s100 : Sl, w98.cell? ⟨b12, 4, none⟩ = some (s100.val) ∧
 ∃ n101 : Int, w98.cell? ⟨b12, 0, none⟩ = some (.int .i64 n101) ∧
 ∃ a102 : Addr, s100.ptr = some a102 ∧ 0 ≤ (wr (n101 + (1 : Int))) ∧ (wr (n101 + (1 : Int))) < (s100.len : Int) ∧
 ∃ n103 : Int, w98.cell? (Addr.add a102 (Int.toNat (wr (n101 + (1 : Int))) * 1)) = some (.int .i64 n103) ∧
 wrOk w98 ⟨b94, 2, none⟩ 1 ∧ ∀ w104 : World, w104 = stW w98 ⟨b94, 2, none⟩ 0 [.int .i64 n103] →
 J15  w104)
 (J15  w98))
def hollowayref9_Record_j2 (J3 : World → Prop) (b12 : Nat) (n39 : Int) (b18 : Nat) (I1 : World → Prop) (μ1 : World → Nat) (w21 : World) (b46 : Bool) (w45 : World) (K : Value → World → Prop) : Prop :=
 brB b46
 (J3  w45)
 (∃ n_Ip47 : Int, ∃ n_Handler48 : Int, ∃ s_Stack49 : Sl, ∃ s_Back50 : Sl, ∃ s_Mem51 : Sl, ∃ t_Out52 : ByteArray, ∃ t_In53 : ByteArray, ∃ n_Read54 : Int, ∃ n_Status55 : Int, ∃ n_Code56 : Int, w45.cell? ⟨b12, 0, none⟩ = some (.int .i64 n_Ip47) ∧ w45.cell? ⟨b12, 1, none⟩ = some (.int .i64 n_Handler48) ∧ w45.cell? ⟨b12, 2, none⟩ = some (s_Stack49.val) ∧ w45.cell? ⟨b12, 3, none⟩ = some (s_Back50.val) ∧ w45.cell? ⟨b12, 4, none⟩ = some (s_Mem51.val) ∧ w45.cell? ⟨b12, 5, none⟩ = some (.string t_Out52) ∧ w45.cell? ⟨b12, 6, none⟩ = some (.string t_In53) ∧ w45.cell? ⟨b12, 7, none⟩ = some (.int .i64 n_Read54) ∧ w45.cell? ⟨b12, 8, none⟩ = some (.int .i64 n_Status55) ∧ w45.cell? ⟨b12, 9, none⟩ = some (.int .i64 n_Code56) ∧
 Calls Try.prog fn_hollowayref9_Step #[.agg #[.int .i64 n_Ip47, .int .i64 n_Handler48, s_Stack49.val, s_Back50.val, s_Mem51.val, .string t_Out52, .string t_In53, .int .i64 n_Read54, .int .i64 n_Status55, .int .i64 n_Code56]] w45 fun e57 w58 => ∃ n_Ip59 : Int, ∃ n_Handler60 : Int, ∃ s_Stack61 : Sl, ∃ s_Back62 : Sl, ∃ s_Mem63 : Sl, ∃ t_Out64 : ByteArray, ∃ t_In65 : ByteArray, ∃ n_Read66 : Int, ∃ n_Status67 : Int, ∃ n_Code68 : Int, e57 = .returned (.agg #[.int .i64 n_Ip59, .int .i64 n_Handler60, s_Stack61.val, s_Back62.val, s_Mem63.val, .string t_Out64, .string t_In65, .int .i64 n_Read66, .int .i64 n_Status67, .int .i64 n_Code68]) ∧
 ∀ (b69 : Nat) (w70 : World), b69 = w58.heap.size → w70 = World.alloc w58 (.cells #[.int .i64 (0 : Int), .int .i64 (0 : Int), .slice none 0 0, .slice none 0 0, .slice none 0 0, .string (bs []), .string (bs []), .int .i64 (0 : Int), .int .i64 (0 : Int), .int .i64 (0 : Int)] T_api_State) →
 wrOk w70 ⟨b69, 0, none⟩ 10 ∧ ∀ w71 : World, w71 = stW w70 ⟨b69, 0, none⟩ 0 [.int .i64 n_Ip59, .int .i64 n_Handler60, s_Stack61.val, s_Back62.val, s_Mem63.val, .string t_Out64, .string t_In65, .int .i64 n_Read66, .int .i64 n_Status67, .int .i64 n_Code68] →
 ∃ n72 : Int, w71.cell? ⟨b69, 8, none⟩ = some (.int .i64 n72) ∧
 brB (n72 != (0 : Int))
 (hollowayref9_Record_j1 J3 b12 b69 n39 b18 I1 (μ1) w21 true w71 K)
 (∃ n_Ip73 : Int, ∃ n_Handler74 : Int, ∃ s_Stack75 : Sl, ∃ s_Back76 : Sl, ∃ s_Mem77 : Sl, ∃ t_Out78 : ByteArray, ∃ t_In79 : ByteArray, ∃ n_Read80 : Int, ∃ n_Status81 : Int, ∃ n_Code82 : Int, w71.cell? ⟨b12, 0, none⟩ = some (.int .i64 n_Ip73) ∧ w71.cell? ⟨b12, 1, none⟩ = some (.int .i64 n_Handler74) ∧ w71.cell? ⟨b12, 2, none⟩ = some (s_Stack75.val) ∧ w71.cell? ⟨b12, 3, none⟩ = some (s_Back76.val) ∧ w71.cell? ⟨b12, 4, none⟩ = some (s_Mem77.val) ∧ w71.cell? ⟨b12, 5, none⟩ = some (.string t_Out78) ∧ w71.cell? ⟨b12, 6, none⟩ = some (.string t_In79) ∧ w71.cell? ⟨b12, 7, none⟩ = some (.int .i64 n_Read80) ∧ w71.cell? ⟨b12, 8, none⟩ = some (.int .i64 n_Status81) ∧ w71.cell? ⟨b12, 9, none⟩ = some (.int .i64 n_Code82) ∧
 Calls Try.prog fn_hollowayref9_faults #[.agg #[.int .i64 n_Ip73, .int .i64 n_Handler74, s_Stack75.val, s_Back76.val, s_Mem77.val, .string t_Out78, .string t_In79, .int .i64 n_Read80, .int .i64 n_Status81, .int .i64 n_Code82]] w71 fun e83 w84 => ∃ b85 : Bool, e83 = .returned (.bool b85) ∧
 brB b85
 (hollowayref9_Record_j1 J3 b12 b69 n39 b18 I1 (μ1) w21 true w84 K)
 (∃ n86 : Int, w84.cell? ⟨b69, 0, none⟩ = some (.int .i64 n86) ∧
 brB (decide (n86 < (0 : Int)))
 (hollowayref9_Record_j1 J3 b12 b69 n39 b18 I1 (μ1) w21 true w84 K)
 (∃ n87 : Int, w84.cell? ⟨b69, 0, none⟩ = some (.int .i64 n87) ∧
 hollowayref9_Record_j1 J3 b12 b69 n39 b18 I1 (μ1) w21 (decide (n87 ≥ (3000 : Int))) w84 K))))
def hollowayref9_Record_j3 (J3 : World → Prop) (b12 : Nat) (b18 : Nat) (I1 : World → Prop) (μ1 : World → Nat) (w21 : World) (b35 : Bool) (w34 : World) (K : Value → World → Prop) : Prop :=
 brB b35
 (J3  w34)
 (∃ s36 : Sl, w34.cell? ⟨b12, 4, none⟩ = some (s36.val) ∧
 ∃ n37 : Int, w34.cell? ⟨b12, 0, none⟩ = some (.int .i64 n37) ∧
 ∃ a38 : Addr, s36.ptr = some a38 ∧ 0 ≤ n37 ∧ n37 < (s36.len : Int) ∧
 ∃ n39 : Int, w34.cell? (Addr.add a38 (Int.toNat n37 * 1)) = some (.int .i64 n39) ∧
 brB (decide (n39 < (64 : Int)))
 (Calls Try.prog fn_hollowayref1_Plain #[.int .i64 n39] w34 fun e40 w41 => ∃ b42 : Bool, e40 = .returned (.bool b42) ∧
 hollowayref9_Record_j2 J3 b12 n39 b18 I1 (μ1) w21 (!b42) w41 K)
 (hollowayref9_Record_j2 J3 b12 n39 b18 I1 (μ1) w21 false w34 K))
def hollowayref9_Record_j4 (b12 : Nat) (J3 : World → Prop) (b18 : Nat) (I1 : World → Prop) (μ1 : World → Nat) (w21 : World) (b28 : Bool) (w27 : World) (K : Value → World → Prop) : Prop :=
 brB b28
 (∃ n29 : Int, w27.cell? ⟨b12, 0, none⟩ = some (.int .i64 n29) ∧
 brB (decide (n29 < (0 : Int)))
 (hollowayref9_Record_j3 J3 b12 b18 I1 (μ1) w21 true w27 K)
 (∃ n30 : Int, w27.cell? ⟨b12, 0, none⟩ = some (.int .i64 n30) ∧
 ∃ s31 : Sl, w27.cell? ⟨b12, 4, none⟩ = some (s31.val) ∧
 hollowayref9_Record_j3 J3 b12 b18 I1 (μ1) w21 (decide (n30 ≥ (s31.len : Int))) w27 K))
 (J3  w27)
def hollowayref9_Record_sh (s__Ip1 : Int) (s__Handler2 : Int) (s__Stack3 : Sl) (s__Back4 : Sl) (s__Mem5 : Sl) (s__Out6 : ByteArray) (s__In7 : ByteArray) (s__Read8 : Int) (s__Status9 : Int) (s__Code10 : Int) (most11 : Int) (w : World) (K : Value → World → Prop) : Prop :=
 ∀ (b12 : Nat) (w13 : World), b12 = w.heap.size → w13 = World.alloc w (.cells #[.int .i64 s__Ip1, .int .i64 s__Handler2, s__Stack3.val, s__Back4.val, s__Mem5.val, .string s__Out6, .string s__In7, .int .i64 s__Read8, .int .i64 s__Status9, .int .i64 s__Code10] T_api_State) →
 ∀ (b14 : Nat) (w15 : World), b14 = w13.heap.size → w15 = World.alloc w13 (.cells #[.int .i64 (0 : Int), .int .i64 (0 : Int), .bool false, .slice none 0 0] T_api_Recording) →
 ∃ n16 : Int, w15.cell? ⟨b12, 0, none⟩ = some (.int .i64 n16) ∧
 ∃ n17 : Int, w15.cell? ⟨b12, 0, none⟩ = some (.int .i64 n17) ∧
 ∀ (b18 : Nat) (w19 : World), b18 = w15.heap.size → w19 = World.alloc w15 (.cells #[.int .i64 (0 : Int), .int .i64 (0 : Int), .bool false, .slice none 0 0] T_api_Recording) →
 wrOk w19 ⟨b18, 0, none⟩ 4 ∧ ∀ w20 : World, w20 = stW w19 ⟨b18, 0, none⟩ 0 [.int .i64 n16, .int .i64 n17, .bool false, .slice none 0 0] →
 ∃ J3 : World → Prop, (∀ (w132 : World), J3  w132 →
 ∃ n_Start133 : Int, ∃ n_End134 : Int, ∃ b_Loop135 : Bool, ∃ s_Steps136 : Sl, w132.cell? ⟨b18, 0, none⟩ = some (.int .i64 n_Start133) ∧ w132.cell? ⟨b18, 1, none⟩ = some (.int .i64 n_End134) ∧ w132.cell? ⟨b18, 2, none⟩ = some (.bool b_Loop135) ∧ w132.cell? ⟨b18, 3, none⟩ = some (s_Steps136.val) ∧
 wrOk w132 ⟨b14, 0, none⟩ 4 ∧ ∀ w137 : World, w137 = stW w132 ⟨b14, 0, none⟩ 0 [.int .i64 n_Start133, .int .i64 n_End134, .bool b_Loop135, s_Steps136.val] →
 ∃ r_Start138 : Int, ∃ r_End139 : Int, ∃ r_Loop140 : Bool, ∃ r_Steps141 : Sl, w137.cell? ⟨b14, 0, none⟩ = some (.int .i64 r_Start138) ∧ w137.cell? ⟨b14, 1, none⟩ = some (.int .i64 r_End139) ∧ w137.cell? ⟨b14, 2, none⟩ = some (.bool r_Loop140) ∧ w137.cell? ⟨b14, 3, none⟩ = some (r_Steps141.val) ∧
 K (.agg #[.int .i64 r_Start138, .int .i64 r_End139, .bool r_Loop140, r_Steps141.val]) w137) ∧
 ∃ (I1 : World → Prop) (μ1 : World → Nat), I1  w20 ∧ ∀ (w21 : World), I1  w21 →
 ∃ s22 : Sl, w21.cell? ⟨b18, 3, none⟩ = some (s22.val) ∧
 brB (decide ((s22.len : Int) < (imin (imax most11 (0 : Int)) (120 : Int))))
 (∃ n23 : Int, w21.cell? ⟨b12, 8, none⟩ = some (.int .i64 n23) ∧
 brB (n23 == (0 : Int))
 (∃ b24 : Bool, w21.cell? ⟨b18, 2, none⟩ = some (.bool b24) ∧
 hollowayref9_Record_j4 b12 J3 b18 I1 (μ1) w21 (!b24) w21 K)
 (hollowayref9_Record_j4 b12 J3 b18 I1 (μ1) w21 false w21 K))
 (hollowayref9_Record_j4 b12 J3 b18 I1 (μ1) w21 false w21 K)
def hollowayref9_Record_an : An := ⟨[(2, [])], [], [(11, []), (15, [])]⟩
theorem hollowayref9_Record_lift {s__Ip1 : Int} {s__Handler2 : Int} {s__Stack3 : Sl} {s__Back4 : Sl} {s__Mem5 : Sl} {s__Out6 : ByteArray} {s__In7 : ByteArray} {s__Read8 : Int} {s__Status9 : Int} {s__Code10 : Int} {most11 : Int} {w : World} {K : Value → World → Prop} (h : hollowayref9_Record_sh s__Ip1 s__Handler2 s__Stack3 s__Back4 s__Mem5 s__Out6 s__In7 s__Read8 s__Status9 s__Code10 most11 w K) : Calls Try.prog fn_hollowayref9_Record #[.agg #[.int .i64 s__Ip1, .int .i64 s__Handler2, s__Stack3.val, s__Back4.val, s__Mem5.val, .string s__Out6, .string s__In7, .int .i64 s__Read8, .int .i64 s__Status9, .int .i64 s__Code10], .int .i64 most11] w fun e w' => ∃ v, e = .returned v ∧ K v w' :=
   lift_calls (A := hollowayref9_Record_an) (c := bodyOf Try.f6) (args := [.agg #[.int .i64 s__Ip1, .int .i64 s__Handler2, s__Stack3.val, s__Back4.val, s__Mem5.val, .string s__Out6, .string s__In7, .int .i64 s__Read8, .int .i64 s__Status9, .int .i64 s__Code10], .int .i64 most11]) orc orc_wide Try.func6 (by kernel_rfl) (by kernel_rfl) (Eq.mp (by kernel_rfl : hollowayref9_Record_sh s__Ip1 s__Handler2 s__Stack3 s__Back4 s__Mem5 s__Out6 s__In7 s__Read8 s__Status9 s__Code10 most11 w K = wpc orc Try.f6.ntmps hollowayref9_Record_an (bodyOf Try.f6) (argl 0 [.agg #[.int .i64 s__Ip1, .int .i64 s__Handler2, s__Stack3.val, s__Back4.val, s__Mem5.val, .string s__Out6, .string s__In7, .int .i64 s__Read8, .int .i64 s__Status9, .int .i64 s__Code10], .int .i64 most11]) w (retQ orc Try.f6.results.toList K)) h)

-- holloway/hollowayref9.Recorded
def hollowayref9_Recorded_sh (r__Start1 : Int) (r__End2 : Int) (r__Loop3 : Bool) (r__Steps4 : Sl) (w : World) (K : Value → World → Prop) : Prop :=
 ∀ (b5 : Nat) (w6 : World), b5 = w.heap.size → w6 = World.alloc w (.cells #[.int .i64 r__Start1, .int .i64 r__End2, .bool r__Loop3, r__Steps4.val] T_api_Recording) →
 ∃ s7 : Sl, w6.cell? ⟨b5, 3, none⟩ = some (s7.val) ∧
 ∃ J4 : Bool → World → Prop, (∀ (b16 : Bool) (w15 : World), J4 b16 w15 →
 brB b16
 (K (.bool false) w15)
 (∃ n17 : Int, w15.cell? ⟨b5, 0, none⟩ = some (.int .i64 n17) ∧
 ∃ (I1 : Int → Int → World → Prop) (μ1 : Int → Int → World → Nat), I1 n17 (0 : Int) w15 ∧ ∀ (at30 : Int) (i19 : Int) (w18 : World), I1 at30 i19 w18 →
 brB (decide (i19 < (s7.len : Int)))
 (∃ s20 : Sl, w18.cell? ⟨b5, 3, none⟩ = some (s20.val) ∧
 ∃ a21 : Addr, s20.ptr = some a21 ∧ 0 ≤ i19 ∧ i19 < (s20.len : Int) ∧
 ∃ n_Ip22 : Int, ∃ n_Cell23 : Int, ∃ n_Arg24 : Int, ∃ n_Next25 : Int, w18.cell? (Addr.add a21 (Int.toNat i19 * 4)) = some (.int .i64 n_Ip22) ∧ w18.cell? (Addr.add (Addr.add a21 (Int.toNat i19 * 4)) 1) = some (.int .i64 n_Cell23) ∧ w18.cell? (Addr.add (Addr.add a21 (Int.toNat i19 * 4)) 2) = some (.int .i64 n_Arg24) ∧ w18.cell? (Addr.add (Addr.add a21 (Int.toNat i19 * 4)) 3) = some (.int .i64 n_Next25) ∧
 ∀ (b26 : Nat) (w27 : World), b26 = w18.heap.size → w27 = World.alloc w18 (.cells #[.int .i64 (0 : Int), .int .i64 (0 : Int), .int .i64 (0 : Int), .int .i64 (0 : Int)] T_api_Seen) →
 wrOk w27 ⟨b26, 0, none⟩ 4 ∧ ∀ w28 : World, w28 = stW w27 ⟨b26, 0, none⟩ 0 [.int .i64 n_Ip22, .int .i64 n_Cell23, .int .i64 n_Arg24, .int .i64 n_Next25] →
 ∃ J14 : Bool → World → Prop, (∀ (b152 : Bool) (w151 : World), J14 b152 w151 →
 brB b152
 (K (.bool false) w151)
 (∃ n153 : Int, w151.cell? ⟨b26, 3, none⟩ = some (.int .i64 n153) ∧
 I1 n153 (wr (i19 + (1 : Int))) w151 ∧ μ1 n153 (wr (i19 + (1 : Int))) w151 < μ1 at30 i19 w18)) ∧
 ∃ n29 : Int, w28.cell? ⟨b26, 0, none⟩ = some (.int .i64 n29) ∧
 brB (n29 != at30)
 (J14 true w28)
 (brB (decide (i19 > (0 : Int)))
 (∃ n31 : Int, w28.cell? ⟨b26, 0, none⟩ = some (.int .i64 n31) ∧
 ∃ n32 : Int, w28.cell? ⟨b5, 0, none⟩ = some (.int .i64 n32) ∧
 brB (n31 == n32)
 (J14 true w28)
 (∃ n33 : Int, w28.cell? ⟨b26, 1, none⟩ = some (.int .i64 n33) ∧
 brB (decide (n33 < (64 : Int)))
 (∃ n34 : Int, w28.cell? ⟨b26, 1, none⟩ = some (.int .i64 n34) ∧
 Calls Try.prog fn_hollowayref1_Plain #[.int .i64 n34] w28 fun e35 w36 => ∃ b37 : Bool, e35 = .returned (.bool b37) ∧
 brB (!b37)
 (J14 true w36)
 (∃ n38 : Int, w36.cell? ⟨b26, 2, none⟩ = some (.int .i64 n38) ∧
 brB (n38 != (0 : Int))
 (∃ n39 : Int, w36.cell? ⟨b26, 1, none⟩ = some (.int .i64 n39) ∧
 Calls Try.prog fn_hollowayref1_Arg #[.int .i64 n39] w36 fun e40 w41 => ∃ b42 : Bool, e40 = .returned (.bool b42) ∧
 brB (!b42)
 (J14 true w41)
 (∃ n43 : Int, w41.cell? ⟨b26, 0, none⟩ = some (.int .i64 n43) ∧
 brB (decide (n43 < (0 : Int)))
 (J14 true w41)
 (∃ n44 : Int, w41.cell? ⟨b26, 0, none⟩ = some (.int .i64 n44) ∧
 brB (decide (n44 ≥ (3000 : Int)))
 (J14 true w41)
 (∃ n45 : Int, w41.cell? ⟨b26, 1, none⟩ = some (.int .i64 n45) ∧
 Calls Try.prog fn_hollowayref1_Arg #[.int .i64 n45] w41 fun e46 w47 => ∃ b48 : Bool, e46 = .returned (.bool b48) ∧
 brB b48
 (∃ n49 : Int, w47.cell? ⟨b26, 0, none⟩ = some (.int .i64 n49) ∧
 brB (decide (n49 ≥ (2999 : Int)))
 (J14 true w47)
 (∃ n50 : Int, w47.cell? ⟨b26, 3, none⟩ = some (.int .i64 n50) ∧
 brB (decide (n50 < (0 : Int)))
 (J14 true w47)
 (∃ n51 : Int, w47.cell? ⟨b26, 3, none⟩ = some (.int .i64 n51) ∧
 J14 (decide (n51 ≥ (3000 : Int))) w47)))
 (∃ n52 : Int, w47.cell? ⟨b26, 3, none⟩ = some (.int .i64 n52) ∧
 brB (decide (n52 < (0 : Int)))
 (J14 true w47)
 (∃ n53 : Int, w47.cell? ⟨b26, 3, none⟩ = some (.int .i64 n53) ∧
 J14 (decide (n53 ≥ (3000 : Int))) w47))))))
 (∃ n54 : Int, w36.cell? ⟨b26, 0, none⟩ = some (.int .i64 n54) ∧
 brB (decide (n54 < (0 : Int)))
 (J14 true w36)
 (∃ n55 : Int, w36.cell? ⟨b26, 0, none⟩ = some (.int .i64 n55) ∧
 brB (decide (n55 ≥ (3000 : Int)))
 (J14 true w36)
 (∃ n56 : Int, w36.cell? ⟨b26, 1, none⟩ = some (.int .i64 n56) ∧
 Calls Try.prog fn_hollowayref1_Arg #[.int .i64 n56] w36 fun e57 w58 => ∃ b59 : Bool, e57 = .returned (.bool b59) ∧
 brB b59
 (∃ n60 : Int, w58.cell? ⟨b26, 0, none⟩ = some (.int .i64 n60) ∧
 brB (decide (n60 ≥ (2999 : Int)))
 (J14 true w58)
 (∃ n61 : Int, w58.cell? ⟨b26, 3, none⟩ = some (.int .i64 n61) ∧
 brB (decide (n61 < (0 : Int)))
 (J14 true w58)
 (∃ n62 : Int, w58.cell? ⟨b26, 3, none⟩ = some (.int .i64 n62) ∧
 J14 (decide (n62 ≥ (3000 : Int))) w58)))
 (∃ n63 : Int, w58.cell? ⟨b26, 3, none⟩ = some (.int .i64 n63) ∧
 brB (decide (n63 < (0 : Int)))
 (J14 true w58)
 (∃ n64 : Int, w58.cell? ⟨b26, 3, none⟩ = some (.int .i64 n64) ∧
 J14 (decide (n64 ≥ (3000 : Int))) w58)))))))
 (∃ n65 : Int, w28.cell? ⟨b26, 2, none⟩ = some (.int .i64 n65) ∧
 brB (n65 != (0 : Int))
 (∃ n66 : Int, w28.cell? ⟨b26, 1, none⟩ = some (.int .i64 n66) ∧
 Calls Try.prog fn_hollowayref1_Arg #[.int .i64 n66] w28 fun e67 w68 => ∃ b69 : Bool, e67 = .returned (.bool b69) ∧
 brB (!b69)
 (J14 true w68)
 (∃ n70 : Int, w68.cell? ⟨b26, 0, none⟩ = some (.int .i64 n70) ∧
 brB (decide (n70 < (0 : Int)))
 (J14 true w68)
 (∃ n71 : Int, w68.cell? ⟨b26, 0, none⟩ = some (.int .i64 n71) ∧
 brB (decide (n71 ≥ (3000 : Int)))
 (J14 true w68)
 (∃ n72 : Int, w68.cell? ⟨b26, 1, none⟩ = some (.int .i64 n72) ∧
 Calls Try.prog fn_hollowayref1_Arg #[.int .i64 n72] w68 fun e73 w74 => ∃ b75 : Bool, e73 = .returned (.bool b75) ∧
 brB b75
 (∃ n76 : Int, w74.cell? ⟨b26, 0, none⟩ = some (.int .i64 n76) ∧
 brB (decide (n76 ≥ (2999 : Int)))
 (J14 true w74)
 (∃ n77 : Int, w74.cell? ⟨b26, 3, none⟩ = some (.int .i64 n77) ∧
 brB (decide (n77 < (0 : Int)))
 (J14 true w74)
 (∃ n78 : Int, w74.cell? ⟨b26, 3, none⟩ = some (.int .i64 n78) ∧
 J14 (decide (n78 ≥ (3000 : Int))) w74)))
 (∃ n79 : Int, w74.cell? ⟨b26, 3, none⟩ = some (.int .i64 n79) ∧
 brB (decide (n79 < (0 : Int)))
 (J14 true w74)
 (∃ n80 : Int, w74.cell? ⟨b26, 3, none⟩ = some (.int .i64 n80) ∧
 J14 (decide (n80 ≥ (3000 : Int))) w74))))))
 (∃ n81 : Int, w28.cell? ⟨b26, 0, none⟩ = some (.int .i64 n81) ∧
 brB (decide (n81 < (0 : Int)))
 (J14 true w28)
 (∃ n82 : Int, w28.cell? ⟨b26, 0, none⟩ = some (.int .i64 n82) ∧
 brB (decide (n82 ≥ (3000 : Int)))
 (J14 true w28)
 (∃ n83 : Int, w28.cell? ⟨b26, 1, none⟩ = some (.int .i64 n83) ∧
 Calls Try.prog fn_hollowayref1_Arg #[.int .i64 n83] w28 fun e84 w85 => ∃ b86 : Bool, e84 = .returned (.bool b86) ∧
 brB b86
 (∃ n87 : Int, w85.cell? ⟨b26, 0, none⟩ = some (.int .i64 n87) ∧
 brB (decide (n87 ≥ (2999 : Int)))
 (J14 true w85)
 (∃ n88 : Int, w85.cell? ⟨b26, 3, none⟩ = some (.int .i64 n88) ∧
 brB (decide (n88 < (0 : Int)))
 (J14 true w85)
 (∃ n89 : Int, w85.cell? ⟨b26, 3, none⟩ = some (.int .i64 n89) ∧
 J14 (decide (n89 ≥ (3000 : Int))) w85)))
 (∃ n90 : Int, w85.cell? ⟨b26, 3, none⟩ = some (.int .i64 n90) ∧
 brB (decide (n90 < (0 : Int)))
 (J14 true w85)
 (∃ n91 : Int, w85.cell? ⟨b26, 3, none⟩ = some (.int .i64 n91) ∧
 J14 (decide (n91 ≥ (3000 : Int))) w85))))))))
 (∃ n92 : Int, w28.cell? ⟨b26, 1, none⟩ = some (.int .i64 n92) ∧
 brB (decide (n92 < (64 : Int)))
 (∃ n93 : Int, w28.cell? ⟨b26, 1, none⟩ = some (.int .i64 n93) ∧
 Calls Try.prog fn_hollowayref1_Plain #[.int .i64 n93] w28 fun e94 w95 => ∃ b96 : Bool, e94 = .returned (.bool b96) ∧
 brB (!b96)
 (J14 true w95)
 (∃ n97 : Int, w95.cell? ⟨b26, 2, none⟩ = some (.int .i64 n97) ∧
 brB (n97 != (0 : Int))
 (∃ n98 : Int, w95.cell? ⟨b26, 1, none⟩ = some (.int .i64 n98) ∧
 Calls Try.prog fn_hollowayref1_Arg #[.int .i64 n98] w95 fun e99 w100 => ∃ b101 : Bool, e99 = .returned (.bool b101) ∧
 brB (!b101)
 (J14 true w100)
 (∃ n102 : Int, w100.cell? ⟨b26, 0, none⟩ = some (.int .i64 n102) ∧
 brB (decide (n102 < (0 : Int)))
 (J14 true w100)
 (∃ n103 : Int, w100.cell? ⟨b26, 0, none⟩ = some (.int .i64 n103) ∧
 brB (decide (n103 ≥ (3000 : Int)))
 (J14 true w100)
 (∃ n104 : Int, w100.cell? ⟨b26, 1, none⟩ = some (.int .i64 n104) ∧
 Calls Try.prog fn_hollowayref1_Arg #[.int .i64 n104] w100 fun e105 w106 => ∃ b107 : Bool, e105 = .returned (.bool b107) ∧
 brB b107
 (∃ n108 : Int, w106.cell? ⟨b26, 0, none⟩ = some (.int .i64 n108) ∧
 brB (decide (n108 ≥ (2999 : Int)))
 (J14 true w106)
 (∃ n109 : Int, w106.cell? ⟨b26, 3, none⟩ = some (.int .i64 n109) ∧
 brB (decide (n109 < (0 : Int)))
 (J14 true w106)
 (∃ n110 : Int, w106.cell? ⟨b26, 3, none⟩ = some (.int .i64 n110) ∧
 J14 (decide (n110 ≥ (3000 : Int))) w106)))
 (∃ n111 : Int, w106.cell? ⟨b26, 3, none⟩ = some (.int .i64 n111) ∧
 brB (decide (n111 < (0 : Int)))
 (J14 true w106)
 (∃ n112 : Int, w106.cell? ⟨b26, 3, none⟩ = some (.int .i64 n112) ∧
 J14 (decide (n112 ≥ (3000 : Int))) w106))))))
 (∃ n113 : Int, w95.cell? ⟨b26, 0, none⟩ = some (.int .i64 n113) ∧
 brB (decide (n113 < (0 : Int)))
 (J14 true w95)
 (∃ n114 : Int, w95.cell? ⟨b26, 0, none⟩ = some (.int .i64 n114) ∧
 brB (decide (n114 ≥ (3000 : Int)))
 (J14 true w95)
 (∃ n115 : Int, w95.cell? ⟨b26, 1, none⟩ = some (.int .i64 n115) ∧
 Calls Try.prog fn_hollowayref1_Arg #[.int .i64 n115] w95 fun e116 w117 => ∃ b118 : Bool, e116 = .returned (.bool b118) ∧
 brB b118
 (∃ n119 : Int, w117.cell? ⟨b26, 0, none⟩ = some (.int .i64 n119) ∧
 brB (decide (n119 ≥ (2999 : Int)))
 (J14 true w117)
 (∃ n120 : Int, w117.cell? ⟨b26, 3, none⟩ = some (.int .i64 n120) ∧
 brB (decide (n120 < (0 : Int)))
 (J14 true w117)
 (∃ n121 : Int, w117.cell? ⟨b26, 3, none⟩ = some (.int .i64 n121) ∧
 J14 (decide (n121 ≥ (3000 : Int))) w117)))
 (∃ n122 : Int, w117.cell? ⟨b26, 3, none⟩ = some (.int .i64 n122) ∧
 brB (decide (n122 < (0 : Int)))
 (J14 true w117)
 (∃ n123 : Int, w117.cell? ⟨b26, 3, none⟩ = some (.int .i64 n123) ∧
 J14 (decide (n123 ≥ (3000 : Int))) w117)))))))
 (∃ n124 : Int, w28.cell? ⟨b26, 2, none⟩ = some (.int .i64 n124) ∧
 brB (n124 != (0 : Int))
 (∃ n125 : Int, w28.cell? ⟨b26, 1, none⟩ = some (.int .i64 n125) ∧
 Calls Try.prog fn_hollowayref1_Arg #[.int .i64 n125] w28 fun e126 w127 => ∃ b128 : Bool, e126 = .returned (.bool b128) ∧
 brB (!b128)
 (J14 true w127)
 (∃ n129 : Int, w127.cell? ⟨b26, 0, none⟩ = some (.int .i64 n129) ∧
 brB (decide (n129 < (0 : Int)))
 (J14 true w127)
 (∃ n130 : Int, w127.cell? ⟨b26, 0, none⟩ = some (.int .i64 n130) ∧
 brB (decide (n130 ≥ (3000 : Int)))
 (J14 true w127)
 (∃ n131 : Int, w127.cell? ⟨b26, 1, none⟩ = some (.int .i64 n131) ∧
 Calls Try.prog fn_hollowayref1_Arg #[.int .i64 n131] w127 fun e132 w133 => ∃ b134 : Bool, e132 = .returned (.bool b134) ∧
 brB b134
 (∃ n135 : Int, w133.cell? ⟨b26, 0, none⟩ = some (.int .i64 n135) ∧
 brB (decide (n135 ≥ (2999 : Int)))
 (J14 true w133)
 (∃ n136 : Int, w133.cell? ⟨b26, 3, none⟩ = some (.int .i64 n136) ∧
 brB (decide (n136 < (0 : Int)))
 (J14 true w133)
 (∃ n137 : Int, w133.cell? ⟨b26, 3, none⟩ = some (.int .i64 n137) ∧
 J14 (decide (n137 ≥ (3000 : Int))) w133)))
 (∃ n138 : Int, w133.cell? ⟨b26, 3, none⟩ = some (.int .i64 n138) ∧
 brB (decide (n138 < (0 : Int)))
 (J14 true w133)
 (∃ n139 : Int, w133.cell? ⟨b26, 3, none⟩ = some (.int .i64 n139) ∧
 J14 (decide (n139 ≥ (3000 : Int))) w133))))))
 (∃ n140 : Int, w28.cell? ⟨b26, 0, none⟩ = some (.int .i64 n140) ∧
 brB (decide (n140 < (0 : Int)))
 (J14 true w28)
 (∃ n141 : Int, w28.cell? ⟨b26, 0, none⟩ = some (.int .i64 n141) ∧
 brB (decide (n141 ≥ (3000 : Int)))
 (J14 true w28)
 (∃ n142 : Int, w28.cell? ⟨b26, 1, none⟩ = some (.int .i64 n142) ∧
 Calls Try.prog fn_hollowayref1_Arg #[.int .i64 n142] w28 fun e143 w144 => ∃ b145 : Bool, e143 = .returned (.bool b145) ∧
 brB b145
 (∃ n146 : Int, w144.cell? ⟨b26, 0, none⟩ = some (.int .i64 n146) ∧
 brB (decide (n146 ≥ (2999 : Int)))
 (J14 true w144)
 (∃ n147 : Int, w144.cell? ⟨b26, 3, none⟩ = some (.int .i64 n147) ∧
 brB (decide (n147 < (0 : Int)))
 (J14 true w144)
 (∃ n148 : Int, w144.cell? ⟨b26, 3, none⟩ = some (.int .i64 n148) ∧
 J14 (decide (n148 ≥ (3000 : Int))) w144)))
 (∃ n149 : Int, w144.cell? ⟨b26, 3, none⟩ = some (.int .i64 n149) ∧
 brB (decide (n149 < (0 : Int)))
 (J14 true w144)
 (∃ n150 : Int, w144.cell? ⟨b26, 3, none⟩ = some (.int .i64 n150) ∧
 J14 (decide (n150 ≥ (3000 : Int))) w144)))))))))
 (∃ n154 : Int, w18.cell? ⟨b5, 1, none⟩ = some (.int .i64 n154) ∧
 K (.bool (at30 == n154)) w18))) ∧
 brB (decide ((s7.len : Int) > (120 : Int)))
 (J4 true w6)
 (∃ b8 : Bool, w6.cell? ⟨b5, 2, none⟩ = some (.bool b8) ∧
 brB (decide ((s7.len : Int) > (0 : Int)))
 (∃ n9 : Int, w6.cell? ⟨b5, 1, none⟩ = some (.int .i64 n9) ∧
 ∃ n10 : Int, w6.cell? ⟨b5, 0, none⟩ = some (.int .i64 n10) ∧
 brB (!(b8 == (n9 == n10)))
 (J4 true w6)
 (brB ((s7.len : Int) == (0 : Int))
 (∃ n11 : Int, w6.cell? ⟨b5, 1, none⟩ = some (.int .i64 n11) ∧
 ∃ n12 : Int, w6.cell? ⟨b5, 0, none⟩ = some (.int .i64 n12) ∧
 J4 (n11 != n12) w6)
 (J4 false w6)))
 (brB (!(b8 == false))
 (J4 true w6)
 (brB ((s7.len : Int) == (0 : Int))
 (∃ n13 : Int, w6.cell? ⟨b5, 1, none⟩ = some (.int .i64 n13) ∧
 ∃ n14 : Int, w6.cell? ⟨b5, 0, none⟩ = some (.int .i64 n14) ∧
 J4 (n13 != n14) w6)
 (J4 false w6))))
def hollowayref9_Recorded_an : An := ⟨[(6, [(4, .int .i64), (5, .int .i64)])], [], [(3, [(36, .bool)]), (10, [(115, .bool)])]⟩
theorem hollowayref9_Recorded_lift {r__Start1 : Int} {r__End2 : Int} {r__Loop3 : Bool} {r__Steps4 : Sl} {w : World} {K : Value → World → Prop} (h : hollowayref9_Recorded_sh r__Start1 r__End2 r__Loop3 r__Steps4 w K) : Calls Try.prog fn_hollowayref9_Recorded #[.agg #[.int .i64 r__Start1, .int .i64 r__End2, .bool r__Loop3, r__Steps4.val]] w fun e w' => ∃ v, e = .returned v ∧ K v w' :=
   lift_calls (A := hollowayref9_Recorded_an) (c := bodyOf Try.f9) (args := [.agg #[.int .i64 r__Start1, .int .i64 r__End2, .bool r__Loop3, r__Steps4.val]]) orc orc_wide Try.func9 (by kernel_rfl) (by kernel_rfl) (Eq.mp (by kernel_rfl : hollowayref9_Recorded_sh r__Start1 r__End2 r__Loop3 r__Steps4 w K = wpc orc Try.f9.ntmps hollowayref9_Recorded_an (bodyOf Try.f9) (argl 0 [.agg #[.int .i64 r__Start1, .int .i64 r__End2, .bool r__Loop3, r__Steps4.val]]) w (retQ orc Try.f9.results.toList K)) h)

-- holloway/hollowayref9.Step
def hollowayref9_Step_sh (was_Ip1 : Int) (was_Handler2 : Int) (was_Stack3 : Sl) (was_Back4 : Sl) (was_Mem5 : Sl) (was_Out6 : ByteArray) (was_In7 : ByteArray) (was_Read8 : Int) (was_Status9 : Int) (was_Code10 : Int) (w : World) (K : Value → World → Prop) : Prop :=
 ∀ (b11 : Nat) (w12 : World), b11 = w.heap.size → w12 = World.alloc w (.cells #[.int .i64 was_Ip1, .int .i64 was_Handler2, was_Stack3.val, was_Back4.val, was_Mem5.val, .string was_Out6, .string was_In7, .int .i64 was_Read8, .int .i64 was_Status9, .int .i64 was_Code10] T_api_State) →
 ∀ (b13 : Nat) (w14 : World), b13 = w12.heap.size → w14 = World.alloc w12 (.cells #[.int .i64 (0 : Int), .int .i64 (0 : Int), .slice none 0 0, .slice none 0 0, .slice none 0 0, .string (bs []), .string (bs []), .int .i64 (0 : Int), .int .i64 (0 : Int), .int .i64 (0 : Int)] T_api_State) →
 ∃ n15 : Int, w14.cell? ⟨b11, 8, none⟩ = some (.int .i64 n15) ∧
 brB (n15 != (0 : Int))
 (∃ n_Ip16 : Int, ∃ n_Handler17 : Int, ∃ s_Stack18 : Sl, ∃ s_Back19 : Sl, ∃ s_Mem20 : Sl, ∃ t_Out21 : ByteArray, ∃ t_In22 : ByteArray, ∃ n_Read23 : Int, ∃ n_Status24 : Int, ∃ n_Code25 : Int, w14.cell? ⟨b11, 0, none⟩ = some (.int .i64 n_Ip16) ∧ w14.cell? ⟨b11, 1, none⟩ = some (.int .i64 n_Handler17) ∧ w14.cell? ⟨b11, 2, none⟩ = some (s_Stack18.val) ∧ w14.cell? ⟨b11, 3, none⟩ = some (s_Back19.val) ∧ w14.cell? ⟨b11, 4, none⟩ = some (s_Mem20.val) ∧ w14.cell? ⟨b11, 5, none⟩ = some (.string t_Out21) ∧ w14.cell? ⟨b11, 6, none⟩ = some (.string t_In22) ∧ w14.cell? ⟨b11, 7, none⟩ = some (.int .i64 n_Read23) ∧ w14.cell? ⟨b11, 8, none⟩ = some (.int .i64 n_Status24) ∧ w14.cell? ⟨b11, 9, none⟩ = some (.int .i64 n_Code25) ∧
 wrOk w14 ⟨b13, 0, none⟩ 10 ∧ ∀ w26 : World, w26 = stW w14 ⟨b13, 0, none⟩ 0 [.int .i64 n_Ip16, .int .i64 n_Handler17, s_Stack18.val, s_Back19.val, s_Mem20.val, .string t_Out21, .string t_In22, .int .i64 n_Read23, .int .i64 n_Status24, .int .i64 n_Code25] →
 ∃ r_Ip27 : Int, ∃ r_Handler28 : Int, ∃ r_Stack29 : Sl, ∃ r_Back30 : Sl, ∃ r_Mem31 : Sl, ∃ r_Out32 : ByteArray, ∃ r_In33 : ByteArray, ∃ r_Read34 : Int, ∃ r_Status35 : Int, ∃ r_Code36 : Int, w26.cell? ⟨b13, 0, none⟩ = some (.int .i64 r_Ip27) ∧ w26.cell? ⟨b13, 1, none⟩ = some (.int .i64 r_Handler28) ∧ w26.cell? ⟨b13, 2, none⟩ = some (r_Stack29.val) ∧ w26.cell? ⟨b13, 3, none⟩ = some (r_Back30.val) ∧ w26.cell? ⟨b13, 4, none⟩ = some (r_Mem31.val) ∧ w26.cell? ⟨b13, 5, none⟩ = some (.string r_Out32) ∧ w26.cell? ⟨b13, 6, none⟩ = some (.string r_In33) ∧ w26.cell? ⟨b13, 7, none⟩ = some (.int .i64 r_Read34) ∧ w26.cell? ⟨b13, 8, none⟩ = some (.int .i64 r_Status35) ∧ w26.cell? ⟨b13, 9, none⟩ = some (.int .i64 r_Code36) ∧
 K (.agg #[.int .i64 r_Ip27, .int .i64 r_Handler28, r_Stack29.val, r_Back30.val, r_Mem31.val, .string r_Out32, .string r_In33, .int .i64 r_Read34, .int .i64 r_Status35, .int .i64 r_Code36]) w26)
 (∃ n_Ip37 : Int, ∃ n_Handler38 : Int, ∃ s_Stack39 : Sl, ∃ s_Back40 : Sl, ∃ s_Mem41 : Sl, ∃ t_Out42 : ByteArray, ∃ t_In43 : ByteArray, ∃ n_Read44 : Int, ∃ n_Status45 : Int, ∃ n_Code46 : Int, w14.cell? ⟨b11, 0, none⟩ = some (.int .i64 n_Ip37) ∧ w14.cell? ⟨b11, 1, none⟩ = some (.int .i64 n_Handler38) ∧ w14.cell? ⟨b11, 2, none⟩ = some (s_Stack39.val) ∧ w14.cell? ⟨b11, 3, none⟩ = some (s_Back40.val) ∧ w14.cell? ⟨b11, 4, none⟩ = some (s_Mem41.val) ∧ w14.cell? ⟨b11, 5, none⟩ = some (.string t_Out42) ∧ w14.cell? ⟨b11, 6, none⟩ = some (.string t_In43) ∧ w14.cell? ⟨b11, 7, none⟩ = some (.int .i64 n_Read44) ∧ w14.cell? ⟨b11, 8, none⟩ = some (.int .i64 n_Status45) ∧ w14.cell? ⟨b11, 9, none⟩ = some (.int .i64 n_Code46) ∧
 Calls Try.prog fn_hollowayref9_Copy #[.agg #[.int .i64 n_Ip37, .int .i64 n_Handler38, s_Stack39.val, s_Back40.val, s_Mem41.val, .string t_Out42, .string t_In43, .int .i64 n_Read44, .int .i64 n_Status45, .int .i64 n_Code46]] w14 fun e47 w48 => ∃ n_Ip49 : Int, ∃ n_Handler50 : Int, ∃ s_Stack51 : Sl, ∃ s_Back52 : Sl, ∃ s_Mem53 : Sl, ∃ t_Out54 : ByteArray, ∃ t_In55 : ByteArray, ∃ n_Read56 : Int, ∃ n_Status57 : Int, ∃ n_Code58 : Int, e47 = .returned (.agg #[.int .i64 n_Ip49, .int .i64 n_Handler50, s_Stack51.val, s_Back52.val, s_Mem53.val, .string t_Out54, .string t_In55, .int .i64 n_Read56, .int .i64 n_Status57, .int .i64 n_Code58]) ∧
 ∀ (b59 : Nat) (w60 : World), b59 = w48.heap.size → w60 = World.alloc w48 (.cells #[.int .i64 (0 : Int), .int .i64 (0 : Int), .slice none 0 0, .slice none 0 0, .slice none 0 0, .string (bs []), .string (bs []), .int .i64 (0 : Int), .int .i64 (0 : Int), .int .i64 (0 : Int)] T_api_State) →
 wrOk w60 ⟨b59, 0, none⟩ 10 ∧ ∀ w61 : World, w61 = stW w60 ⟨b59, 0, none⟩ 0 [.int .i64 n_Ip49, .int .i64 n_Handler50, s_Stack51.val, s_Back52.val, s_Mem53.val, .string t_Out54, .string t_In55, .int .i64 n_Read56, .int .i64 n_Status57, .int .i64 n_Code58] →
 ∃ J7 : Bool → World → Prop, (∀ (b66 : Bool) (w65 : World), J7 b66 w65 →
 brB b66
 (∃ n_Ip67 : Int, ∃ n_Handler68 : Int, ∃ s_Stack69 : Sl, ∃ s_Back70 : Sl, ∃ s_Mem71 : Sl, ∃ t_Out72 : ByteArray, ∃ t_In73 : ByteArray, ∃ n_Read74 : Int, ∃ n_Status75 : Int, ∃ n_Code76 : Int, w65.cell? ⟨b11, 0, none⟩ = some (.int .i64 n_Ip67) ∧ w65.cell? ⟨b11, 1, none⟩ = some (.int .i64 n_Handler68) ∧ w65.cell? ⟨b11, 2, none⟩ = some (s_Stack69.val) ∧ w65.cell? ⟨b11, 3, none⟩ = some (s_Back70.val) ∧ w65.cell? ⟨b11, 4, none⟩ = some (s_Mem71.val) ∧ w65.cell? ⟨b11, 5, none⟩ = some (.string t_Out72) ∧ w65.cell? ⟨b11, 6, none⟩ = some (.string t_In73) ∧ w65.cell? ⟨b11, 7, none⟩ = some (.int .i64 n_Read74) ∧ w65.cell? ⟨b11, 8, none⟩ = some (.int .i64 n_Status75) ∧ w65.cell? ⟨b11, 9, none⟩ = some (.int .i64 n_Code76) ∧
 Calls Try.prog fn_hollowayref9_Fault #[.agg #[.int .i64 n_Ip67, .int .i64 n_Handler68, s_Stack69.val, s_Back70.val, s_Mem71.val, .string t_Out72, .string t_In73, .int .i64 n_Read74, .int .i64 n_Status75, .int .i64 n_Code76], .int .i64 (-9 : Int)] w65 fun e77 w78 => ∃ n_Ip79 : Int, ∃ n_Handler80 : Int, ∃ s_Stack81 : Sl, ∃ s_Back82 : Sl, ∃ s_Mem83 : Sl, ∃ t_Out84 : ByteArray, ∃ t_In85 : ByteArray, ∃ n_Read86 : Int, ∃ n_Status87 : Int, ∃ n_Code88 : Int, e77 = .returned (.agg #[.int .i64 n_Ip79, .int .i64 n_Handler80, s_Stack81.val, s_Back82.val, s_Mem83.val, .string t_Out84, .string t_In85, .int .i64 n_Read86, .int .i64 n_Status87, .int .i64 n_Code88]) ∧
 wrOk w78 ⟨b13, 0, none⟩ 10 ∧ ∀ w89 : World, w89 = stW w78 ⟨b13, 0, none⟩ 0 [.int .i64 n_Ip79, .int .i64 n_Handler80, s_Stack81.val, s_Back82.val, s_Mem83.val, .string t_Out84, .string t_In85, .int .i64 n_Read86, .int .i64 n_Status87, .int .i64 n_Code88] →
 ∃ r_Ip90 : Int, ∃ r_Handler91 : Int, ∃ r_Stack92 : Sl, ∃ r_Back93 : Sl, ∃ r_Mem94 : Sl, ∃ r_Out95 : ByteArray, ∃ r_In96 : ByteArray, ∃ r_Read97 : Int, ∃ r_Status98 : Int, ∃ r_Code99 : Int, w89.cell? ⟨b13, 0, none⟩ = some (.int .i64 r_Ip90) ∧ w89.cell? ⟨b13, 1, none⟩ = some (.int .i64 r_Handler91) ∧ w89.cell? ⟨b13, 2, none⟩ = some (r_Stack92.val) ∧ w89.cell? ⟨b13, 3, none⟩ = some (r_Back93.val) ∧ w89.cell? ⟨b13, 4, none⟩ = some (r_Mem94.val) ∧ w89.cell? ⟨b13, 5, none⟩ = some (.string r_Out95) ∧ w89.cell? ⟨b13, 6, none⟩ = some (.string r_In96) ∧ w89.cell? ⟨b13, 7, none⟩ = some (.int .i64 r_Read97) ∧ w89.cell? ⟨b13, 8, none⟩ = some (.int .i64 r_Status98) ∧ w89.cell? ⟨b13, 9, none⟩ = some (.int .i64 r_Code99) ∧
 K (.agg #[.int .i64 r_Ip90, .int .i64 r_Handler91, r_Stack92.val, r_Back93.val, r_Mem94.val, .string r_Out95, .string r_In96, .int .i64 r_Read97, .int .i64 r_Status98, .int .i64 r_Code99]) w89)
 (∃ s100 : Sl, w65.cell? ⟨b59, 4, none⟩ = some (s100.val) ∧
 ∃ n101 : Int, w65.cell? ⟨b59, 0, none⟩ = some (.int .i64 n101) ∧
 ∃ a102 : Addr, s100.ptr = some a102 ∧ 0 ≤ n101 ∧ n101 < (s100.len : Int) ∧
 ∃ n103 : Int, w65.cell? (Addr.add a102 (Int.toNat n101 * 1)) = some (.int .i64 n103) ∧
 brB (decide (n103 ≥ (64 : Int)))
 (∃ s104 : Sl, w65.cell? ⟨b59, 3, none⟩ = some (s104.val) ∧
 brB (decide ((s104.len : Int) ≥ (48 : Int)))
 (∃ n_Ip105 : Int, ∃ n_Handler106 : Int, ∃ s_Stack107 : Sl, ∃ s_Back108 : Sl, ∃ s_Mem109 : Sl, ∃ t_Out110 : ByteArray, ∃ t_In111 : ByteArray, ∃ n_Read112 : Int, ∃ n_Status113 : Int, ∃ n_Code114 : Int, w65.cell? ⟨b11, 0, none⟩ = some (.int .i64 n_Ip105) ∧ w65.cell? ⟨b11, 1, none⟩ = some (.int .i64 n_Handler106) ∧ w65.cell? ⟨b11, 2, none⟩ = some (s_Stack107.val) ∧ w65.cell? ⟨b11, 3, none⟩ = some (s_Back108.val) ∧ w65.cell? ⟨b11, 4, none⟩ = some (s_Mem109.val) ∧ w65.cell? ⟨b11, 5, none⟩ = some (.string t_Out110) ∧ w65.cell? ⟨b11, 6, none⟩ = some (.string t_In111) ∧ w65.cell? ⟨b11, 7, none⟩ = some (.int .i64 n_Read112) ∧ w65.cell? ⟨b11, 8, none⟩ = some (.int .i64 n_Status113) ∧ w65.cell? ⟨b11, 9, none⟩ = some (.int .i64 n_Code114) ∧
 Calls Try.prog fn_hollowayref9_Fault #[.agg #[.int .i64 n_Ip105, .int .i64 n_Handler106, s_Stack107.val, s_Back108.val, s_Mem109.val, .string t_Out110, .string t_In111, .int .i64 n_Read112, .int .i64 n_Status113, .int .i64 n_Code114], .int .i64 (-5 : Int)] w65 fun e115 w116 => ∃ n_Ip117 : Int, ∃ n_Handler118 : Int, ∃ s_Stack119 : Sl, ∃ s_Back120 : Sl, ∃ s_Mem121 : Sl, ∃ t_Out122 : ByteArray, ∃ t_In123 : ByteArray, ∃ n_Read124 : Int, ∃ n_Status125 : Int, ∃ n_Code126 : Int, e115 = .returned (.agg #[.int .i64 n_Ip117, .int .i64 n_Handler118, s_Stack119.val, s_Back120.val, s_Mem121.val, .string t_Out122, .string t_In123, .int .i64 n_Read124, .int .i64 n_Status125, .int .i64 n_Code126]) ∧
 wrOk w116 ⟨b13, 0, none⟩ 10 ∧ ∀ w127 : World, w127 = stW w116 ⟨b13, 0, none⟩ 0 [.int .i64 n_Ip117, .int .i64 n_Handler118, s_Stack119.val, s_Back120.val, s_Mem121.val, .string t_Out122, .string t_In123, .int .i64 n_Read124, .int .i64 n_Status125, .int .i64 n_Code126] →
 ∃ r_Ip128 : Int, ∃ r_Handler129 : Int, ∃ r_Stack130 : Sl, ∃ r_Back131 : Sl, ∃ r_Mem132 : Sl, ∃ r_Out133 : ByteArray, ∃ r_In134 : ByteArray, ∃ r_Read135 : Int, ∃ r_Status136 : Int, ∃ r_Code137 : Int, w127.cell? ⟨b13, 0, none⟩ = some (.int .i64 r_Ip128) ∧ w127.cell? ⟨b13, 1, none⟩ = some (.int .i64 r_Handler129) ∧ w127.cell? ⟨b13, 2, none⟩ = some (r_Stack130.val) ∧ w127.cell? ⟨b13, 3, none⟩ = some (r_Back131.val) ∧ w127.cell? ⟨b13, 4, none⟩ = some (r_Mem132.val) ∧ w127.cell? ⟨b13, 5, none⟩ = some (.string r_Out133) ∧ w127.cell? ⟨b13, 6, none⟩ = some (.string r_In134) ∧ w127.cell? ⟨b13, 7, none⟩ = some (.int .i64 r_Read135) ∧ w127.cell? ⟨b13, 8, none⟩ = some (.int .i64 r_Status136) ∧ w127.cell? ⟨b13, 9, none⟩ = some (.int .i64 r_Code137) ∧
 K (.agg #[.int .i64 r_Ip128, .int .i64 r_Handler129, r_Stack130.val, r_Back131.val, r_Mem132.val, .string r_Out133, .string r_In134, .int .i64 r_Read135, .int .i64 r_Status136, .int .i64 r_Code137]) w127)
 (∃ s138 : Sl, w65.cell? ⟨b59, 3, none⟩ = some (s138.val) ∧
 ∃ n139 : Int, w65.cell? ⟨b59, 0, none⟩ = some (.int .i64 n139) ∧
 ∀ (b140 : Nat) (w141 : World), b140 = w65.heap.size → w141 = World.alloc w65 (.cells #[.int .i64 (wr (n139 + (1 : Int)))] T_int) →
 ∃ s142 : Sl, ∃ w143 : World, (Builtin.append_ #[T_sl_int, T_sl_int] T_sl_int #[s138.val, .slice (some ⟨b140, 0, none⟩) 1 1]).run Try.prog w141 = .ok (s142.val) w143 ∧
 wrOk w143 ⟨b59, 3, none⟩ 1 ∧ ∀ w144 : World, w144 = stW w143 ⟨b59, 3, none⟩ 0 [s142.val] →
 wrOk w144 ⟨b59, 0, none⟩ 1 ∧ ∀ w145 : World, w145 = stW w144 ⟨b59, 0, none⟩ 0 [.int .i64 n103] →
 ∃ n_Ip146 : Int, ∃ n_Handler147 : Int, ∃ s_Stack148 : Sl, ∃ s_Back149 : Sl, ∃ s_Mem150 : Sl, ∃ t_Out151 : ByteArray, ∃ t_In152 : ByteArray, ∃ n_Read153 : Int, ∃ n_Status154 : Int, ∃ n_Code155 : Int, w145.cell? ⟨b59, 0, none⟩ = some (.int .i64 n_Ip146) ∧ w145.cell? ⟨b59, 1, none⟩ = some (.int .i64 n_Handler147) ∧ w145.cell? ⟨b59, 2, none⟩ = some (s_Stack148.val) ∧ w145.cell? ⟨b59, 3, none⟩ = some (s_Back149.val) ∧ w145.cell? ⟨b59, 4, none⟩ = some (s_Mem150.val) ∧ w145.cell? ⟨b59, 5, none⟩ = some (.string t_Out151) ∧ w145.cell? ⟨b59, 6, none⟩ = some (.string t_In152) ∧ w145.cell? ⟨b59, 7, none⟩ = some (.int .i64 n_Read153) ∧ w145.cell? ⟨b59, 8, none⟩ = some (.int .i64 n_Status154) ∧ w145.cell? ⟨b59, 9, none⟩ = some (.int .i64 n_Code155) ∧
 wrOk w145 ⟨b13, 0, none⟩ 10 ∧ ∀ w156 : World, w156 = stW w145 ⟨b13, 0, none⟩ 0 [.int .i64 n_Ip146, .int .i64 n_Handler147, s_Stack148.val, s_Back149.val, s_Mem150.val, .string t_Out151, .string t_In152, .int .i64 n_Read153, .int .i64 n_Status154, .int .i64 n_Code155] →
 ∃ r_Ip157 : Int, ∃ r_Handler158 : Int, ∃ r_Stack159 : Sl, ∃ r_Back160 : Sl, ∃ r_Mem161 : Sl, ∃ r_Out162 : ByteArray, ∃ r_In163 : ByteArray, ∃ r_Read164 : Int, ∃ r_Status165 : Int, ∃ r_Code166 : Int, w156.cell? ⟨b13, 0, none⟩ = some (.int .i64 r_Ip157) ∧ w156.cell? ⟨b13, 1, none⟩ = some (.int .i64 r_Handler158) ∧ w156.cell? ⟨b13, 2, none⟩ = some (r_Stack159.val) ∧ w156.cell? ⟨b13, 3, none⟩ = some (r_Back160.val) ∧ w156.cell? ⟨b13, 4, none⟩ = some (r_Mem161.val) ∧ w156.cell? ⟨b13, 5, none⟩ = some (.string r_Out162) ∧ w156.cell? ⟨b13, 6, none⟩ = some (.string r_In163) ∧ w156.cell? ⟨b13, 7, none⟩ = some (.int .i64 r_Read164) ∧ w156.cell? ⟨b13, 8, none⟩ = some (.int .i64 r_Status165) ∧ w156.cell? ⟨b13, 9, none⟩ = some (.int .i64 r_Code166) ∧
 K (.agg #[.int .i64 r_Ip157, .int .i64 r_Handler158, r_Stack159.val, r_Back160.val, r_Mem161.val, .string r_Out162, .string r_In163, .int .i64 r_Read164, .int .i64 r_Status165, .int .i64 r_Code166]) w156))
 (Calls Try.prog fn_hollowayref1_Op #[.int .i64 n103] w65 fun e167 w168 => ∃ b169 : Bool, e167 = .returned (.bool b169) ∧
 brB (!b169)
 (∃ n_Ip170 : Int, ∃ n_Handler171 : Int, ∃ s_Stack172 : Sl, ∃ s_Back173 : Sl, ∃ s_Mem174 : Sl, ∃ t_Out175 : ByteArray, ∃ t_In176 : ByteArray, ∃ n_Read177 : Int, ∃ n_Status178 : Int, ∃ n_Code179 : Int, w168.cell? ⟨b11, 0, none⟩ = some (.int .i64 n_Ip170) ∧ w168.cell? ⟨b11, 1, none⟩ = some (.int .i64 n_Handler171) ∧ w168.cell? ⟨b11, 2, none⟩ = some (s_Stack172.val) ∧ w168.cell? ⟨b11, 3, none⟩ = some (s_Back173.val) ∧ w168.cell? ⟨b11, 4, none⟩ = some (s_Mem174.val) ∧ w168.cell? ⟨b11, 5, none⟩ = some (.string t_Out175) ∧ w168.cell? ⟨b11, 6, none⟩ = some (.string t_In176) ∧ w168.cell? ⟨b11, 7, none⟩ = some (.int .i64 n_Read177) ∧ w168.cell? ⟨b11, 8, none⟩ = some (.int .i64 n_Status178) ∧ w168.cell? ⟨b11, 9, none⟩ = some (.int .i64 n_Code179) ∧
 Calls Try.prog fn_hollowayref9_Fault #[.agg #[.int .i64 n_Ip170, .int .i64 n_Handler171, s_Stack172.val, s_Back173.val, s_Mem174.val, .string t_Out175, .string t_In176, .int .i64 n_Read177, .int .i64 n_Status178, .int .i64 n_Code179], .int .i64 (-13 : Int)] w168 fun e180 w181 => ∃ n_Ip182 : Int, ∃ n_Handler183 : Int, ∃ s_Stack184 : Sl, ∃ s_Back185 : Sl, ∃ s_Mem186 : Sl, ∃ t_Out187 : ByteArray, ∃ t_In188 : ByteArray, ∃ n_Read189 : Int, ∃ n_Status190 : Int, ∃ n_Code191 : Int, e180 = .returned (.agg #[.int .i64 n_Ip182, .int .i64 n_Handler183, s_Stack184.val, s_Back185.val, s_Mem186.val, .string t_Out187, .string t_In188, .int .i64 n_Read189, .int .i64 n_Status190, .int .i64 n_Code191]) ∧
 wrOk w181 ⟨b13, 0, none⟩ 10 ∧ ∀ w192 : World, w192 = stW w181 ⟨b13, 0, none⟩ 0 [.int .i64 n_Ip182, .int .i64 n_Handler183, s_Stack184.val, s_Back185.val, s_Mem186.val, .string t_Out187, .string t_In188, .int .i64 n_Read189, .int .i64 n_Status190, .int .i64 n_Code191] →
 ∃ r_Ip193 : Int, ∃ r_Handler194 : Int, ∃ r_Stack195 : Sl, ∃ r_Back196 : Sl, ∃ r_Mem197 : Sl, ∃ r_Out198 : ByteArray, ∃ r_In199 : ByteArray, ∃ r_Read200 : Int, ∃ r_Status201 : Int, ∃ r_Code202 : Int, w192.cell? ⟨b13, 0, none⟩ = some (.int .i64 r_Ip193) ∧ w192.cell? ⟨b13, 1, none⟩ = some (.int .i64 r_Handler194) ∧ w192.cell? ⟨b13, 2, none⟩ = some (r_Stack195.val) ∧ w192.cell? ⟨b13, 3, none⟩ = some (r_Back196.val) ∧ w192.cell? ⟨b13, 4, none⟩ = some (r_Mem197.val) ∧ w192.cell? ⟨b13, 5, none⟩ = some (.string r_Out198) ∧ w192.cell? ⟨b13, 6, none⟩ = some (.string r_In199) ∧ w192.cell? ⟨b13, 7, none⟩ = some (.int .i64 r_Read200) ∧ w192.cell? ⟨b13, 8, none⟩ = some (.int .i64 r_Status201) ∧ w192.cell? ⟨b13, 9, none⟩ = some (.int .i64 r_Code202) ∧
 K (.agg #[.int .i64 r_Ip193, .int .i64 r_Handler194, r_Stack195.val, r_Back196.val, r_Mem197.val, .string r_Out198, .string r_In199, .int .i64 r_Read200, .int .i64 r_Status201, .int .i64 r_Code202]) w192)
 (∃ J22 : Int → World → Prop, (∀ (arg601 : Int) (w245 : World), J22 arg601 w245 →
 Calls Try.prog fn_hollowayref1_Moves #[.int .i64 n103] w245 fun e246 w247 => ∃ n248 : Int, ∃ n249 : Int, ∃ n250 : Int, ∃ n251 : Int, e246 = .returned (.tuple #[.int .i64 n248, .int .i64 n249, .int .i64 n250, .int .i64 n251]) ∧
 ∀ w252 : World, w252 = World.drew w247 →
 ∃ s253 : Sl, held (Lw w252) ⟨b59, 2, none⟩ (s253.val) ∧
 ∃ s254 : Sl, held (Lw w252) ⟨b59, 3, none⟩ (s254.val) ∧
 brB (decide ((s253.len : Int) < n248))
 (∃ n_Ip255 : Int, ∃ n_Handler256 : Int, ∃ s_Stack257 : Sl, ∃ s_Back258 : Sl, ∃ s_Mem259 : Sl, ∃ t_Out260 : ByteArray, ∃ t_In261 : ByteArray, ∃ n_Read262 : Int, ∃ n_Status263 : Int, ∃ n_Code264 : Int, w252.cell? ⟨b11, 0, none⟩ = some (.int .i64 n_Ip255) ∧ w252.cell? ⟨b11, 1, none⟩ = some (.int .i64 n_Handler256) ∧ w252.cell? ⟨b11, 2, none⟩ = some (s_Stack257.val) ∧ w252.cell? ⟨b11, 3, none⟩ = some (s_Back258.val) ∧ w252.cell? ⟨b11, 4, none⟩ = some (s_Mem259.val) ∧ w252.cell? ⟨b11, 5, none⟩ = some (.string t_Out260) ∧ w252.cell? ⟨b11, 6, none⟩ = some (.string t_In261) ∧ w252.cell? ⟨b11, 7, none⟩ = some (.int .i64 n_Read262) ∧ w252.cell? ⟨b11, 8, none⟩ = some (.int .i64 n_Status263) ∧ w252.cell? ⟨b11, 9, none⟩ = some (.int .i64 n_Code264) ∧
 Calls Try.prog fn_hollowayref9_Fault #[.agg #[.int .i64 n_Ip255, .int .i64 n_Handler256, s_Stack257.val, s_Back258.val, s_Mem259.val, .string t_Out260, .string t_In261, .int .i64 n_Read262, .int .i64 n_Status263, .int .i64 n_Code264], .int .i64 (-4 : Int)] w252 fun e265 w266 => ∃ n_Ip267 : Int, ∃ n_Handler268 : Int, ∃ s_Stack269 : Sl, ∃ s_Back270 : Sl, ∃ s_Mem271 : Sl, ∃ t_Out272 : ByteArray, ∃ t_In273 : ByteArray, ∃ n_Read274 : Int, ∃ n_Status275 : Int, ∃ n_Code276 : Int, e265 = .returned (.agg #[.int .i64 n_Ip267, .int .i64 n_Handler268, s_Stack269.val, s_Back270.val, s_Mem271.val, .string t_Out272, .string t_In273, .int .i64 n_Read274, .int .i64 n_Status275, .int .i64 n_Code276]) ∧
 wrOk w266 ⟨b13, 0, none⟩ 10 ∧ ∀ w277 : World, w277 = stW w266 ⟨b13, 0, none⟩ 0 [.int .i64 n_Ip267, .int .i64 n_Handler268, s_Stack269.val, s_Back270.val, s_Mem271.val, .string t_Out272, .string t_In273, .int .i64 n_Read274, .int .i64 n_Status275, .int .i64 n_Code276] →
 ∃ r_Ip278 : Int, ∃ r_Handler279 : Int, ∃ r_Stack280 : Sl, ∃ r_Back281 : Sl, ∃ r_Mem282 : Sl, ∃ r_Out283 : ByteArray, ∃ r_In284 : ByteArray, ∃ r_Read285 : Int, ∃ r_Status286 : Int, ∃ r_Code287 : Int, w277.cell? ⟨b13, 0, none⟩ = some (.int .i64 r_Ip278) ∧ w277.cell? ⟨b13, 1, none⟩ = some (.int .i64 r_Handler279) ∧ w277.cell? ⟨b13, 2, none⟩ = some (r_Stack280.val) ∧ w277.cell? ⟨b13, 3, none⟩ = some (r_Back281.val) ∧ w277.cell? ⟨b13, 4, none⟩ = some (r_Mem282.val) ∧ w277.cell? ⟨b13, 5, none⟩ = some (.string r_Out283) ∧ w277.cell? ⟨b13, 6, none⟩ = some (.string r_In284) ∧ w277.cell? ⟨b13, 7, none⟩ = some (.int .i64 r_Read285) ∧ w277.cell? ⟨b13, 8, none⟩ = some (.int .i64 r_Status286) ∧ w277.cell? ⟨b13, 9, none⟩ = some (.int .i64 r_Code287) ∧
 K (.agg #[.int .i64 r_Ip278, .int .i64 r_Handler279, r_Stack280.val, r_Back281.val, r_Mem282.val, .string r_Out283, .string r_In284, .int .i64 r_Read285, .int .i64 r_Status286, .int .i64 r_Code287]) w277)
 (brB (decide ((s254.len : Int) < n249))
 (∃ n_Ip288 : Int, ∃ n_Handler289 : Int, ∃ s_Stack290 : Sl, ∃ s_Back291 : Sl, ∃ s_Mem292 : Sl, ∃ t_Out293 : ByteArray, ∃ t_In294 : ByteArray, ∃ n_Read295 : Int, ∃ n_Status296 : Int, ∃ n_Code297 : Int, w252.cell? ⟨b11, 0, none⟩ = some (.int .i64 n_Ip288) ∧ w252.cell? ⟨b11, 1, none⟩ = some (.int .i64 n_Handler289) ∧ w252.cell? ⟨b11, 2, none⟩ = some (s_Stack290.val) ∧ w252.cell? ⟨b11, 3, none⟩ = some (s_Back291.val) ∧ w252.cell? ⟨b11, 4, none⟩ = some (s_Mem292.val) ∧ w252.cell? ⟨b11, 5, none⟩ = some (.string t_Out293) ∧ w252.cell? ⟨b11, 6, none⟩ = some (.string t_In294) ∧ w252.cell? ⟨b11, 7, none⟩ = some (.int .i64 n_Read295) ∧ w252.cell? ⟨b11, 8, none⟩ = some (.int .i64 n_Status296) ∧ w252.cell? ⟨b11, 9, none⟩ = some (.int .i64 n_Code297) ∧
 Calls Try.prog fn_hollowayref9_Fault #[.agg #[.int .i64 n_Ip288, .int .i64 n_Handler289, s_Stack290.val, s_Back291.val, s_Mem292.val, .string t_Out293, .string t_In294, .int .i64 n_Read295, .int .i64 n_Status296, .int .i64 n_Code297], .int .i64 (-6 : Int)] w252 fun e298 w299 => ∃ n_Ip300 : Int, ∃ n_Handler301 : Int, ∃ s_Stack302 : Sl, ∃ s_Back303 : Sl, ∃ s_Mem304 : Sl, ∃ t_Out305 : ByteArray, ∃ t_In306 : ByteArray, ∃ n_Read307 : Int, ∃ n_Status308 : Int, ∃ n_Code309 : Int, e298 = .returned (.agg #[.int .i64 n_Ip300, .int .i64 n_Handler301, s_Stack302.val, s_Back303.val, s_Mem304.val, .string t_Out305, .string t_In306, .int .i64 n_Read307, .int .i64 n_Status308, .int .i64 n_Code309]) ∧
 wrOk w299 ⟨b13, 0, none⟩ 10 ∧ ∀ w310 : World, w310 = stW w299 ⟨b13, 0, none⟩ 0 [.int .i64 n_Ip300, .int .i64 n_Handler301, s_Stack302.val, s_Back303.val, s_Mem304.val, .string t_Out305, .string t_In306, .int .i64 n_Read307, .int .i64 n_Status308, .int .i64 n_Code309] →
 ∃ r_Ip311 : Int, ∃ r_Handler312 : Int, ∃ r_Stack313 : Sl, ∃ r_Back314 : Sl, ∃ r_Mem315 : Sl, ∃ r_Out316 : ByteArray, ∃ r_In317 : ByteArray, ∃ r_Read318 : Int, ∃ r_Status319 : Int, ∃ r_Code320 : Int, w310.cell? ⟨b13, 0, none⟩ = some (.int .i64 r_Ip311) ∧ w310.cell? ⟨b13, 1, none⟩ = some (.int .i64 r_Handler312) ∧ w310.cell? ⟨b13, 2, none⟩ = some (r_Stack313.val) ∧ w310.cell? ⟨b13, 3, none⟩ = some (r_Back314.val) ∧ w310.cell? ⟨b13, 4, none⟩ = some (r_Mem315.val) ∧ w310.cell? ⟨b13, 5, none⟩ = some (.string r_Out316) ∧ w310.cell? ⟨b13, 6, none⟩ = some (.string r_In317) ∧ w310.cell? ⟨b13, 7, none⟩ = some (.int .i64 r_Read318) ∧ w310.cell? ⟨b13, 8, none⟩ = some (.int .i64 r_Status319) ∧ w310.cell? ⟨b13, 9, none⟩ = some (.int .i64 r_Code320) ∧
 K (.agg #[.int .i64 r_Ip311, .int .i64 r_Handler312, r_Stack313.val, r_Back314.val, r_Mem315.val, .string r_Out316, .string r_In317, .int .i64 r_Read318, .int .i64 r_Status319, .int .i64 r_Code320]) w310)
 (brB (decide ((wr ((wr ((s253.len : Int) - n248)) + n250)) > (48 : Int)))
 (∃ n_Ip321 : Int, ∃ n_Handler322 : Int, ∃ s_Stack323 : Sl, ∃ s_Back324 : Sl, ∃ s_Mem325 : Sl, ∃ t_Out326 : ByteArray, ∃ t_In327 : ByteArray, ∃ n_Read328 : Int, ∃ n_Status329 : Int, ∃ n_Code330 : Int, w252.cell? ⟨b11, 0, none⟩ = some (.int .i64 n_Ip321) ∧ w252.cell? ⟨b11, 1, none⟩ = some (.int .i64 n_Handler322) ∧ w252.cell? ⟨b11, 2, none⟩ = some (s_Stack323.val) ∧ w252.cell? ⟨b11, 3, none⟩ = some (s_Back324.val) ∧ w252.cell? ⟨b11, 4, none⟩ = some (s_Mem325.val) ∧ w252.cell? ⟨b11, 5, none⟩ = some (.string t_Out326) ∧ w252.cell? ⟨b11, 6, none⟩ = some (.string t_In327) ∧ w252.cell? ⟨b11, 7, none⟩ = some (.int .i64 n_Read328) ∧ w252.cell? ⟨b11, 8, none⟩ = some (.int .i64 n_Status329) ∧ w252.cell? ⟨b11, 9, none⟩ = some (.int .i64 n_Code330) ∧
 Calls Try.prog fn_hollowayref9_Fault #[.agg #[.int .i64 n_Ip321, .int .i64 n_Handler322, s_Stack323.val, s_Back324.val, s_Mem325.val, .string t_Out326, .string t_In327, .int .i64 n_Read328, .int .i64 n_Status329, .int .i64 n_Code330], .int .i64 (-3 : Int)] w252 fun e331 w332 => ∃ n_Ip333 : Int, ∃ n_Handler334 : Int, ∃ s_Stack335 : Sl, ∃ s_Back336 : Sl, ∃ s_Mem337 : Sl, ∃ t_Out338 : ByteArray, ∃ t_In339 : ByteArray, ∃ n_Read340 : Int, ∃ n_Status341 : Int, ∃ n_Code342 : Int, e331 = .returned (.agg #[.int .i64 n_Ip333, .int .i64 n_Handler334, s_Stack335.val, s_Back336.val, s_Mem337.val, .string t_Out338, .string t_In339, .int .i64 n_Read340, .int .i64 n_Status341, .int .i64 n_Code342]) ∧
 wrOk w332 ⟨b13, 0, none⟩ 10 ∧ ∀ w343 : World, w343 = stW w332 ⟨b13, 0, none⟩ 0 [.int .i64 n_Ip333, .int .i64 n_Handler334, s_Stack335.val, s_Back336.val, s_Mem337.val, .string t_Out338, .string t_In339, .int .i64 n_Read340, .int .i64 n_Status341, .int .i64 n_Code342] →
 ∃ r_Ip344 : Int, ∃ r_Handler345 : Int, ∃ r_Stack346 : Sl, ∃ r_Back347 : Sl, ∃ r_Mem348 : Sl, ∃ r_Out349 : ByteArray, ∃ r_In350 : ByteArray, ∃ r_Read351 : Int, ∃ r_Status352 : Int, ∃ r_Code353 : Int, w343.cell? ⟨b13, 0, none⟩ = some (.int .i64 r_Ip344) ∧ w343.cell? ⟨b13, 1, none⟩ = some (.int .i64 r_Handler345) ∧ w343.cell? ⟨b13, 2, none⟩ = some (r_Stack346.val) ∧ w343.cell? ⟨b13, 3, none⟩ = some (r_Back347.val) ∧ w343.cell? ⟨b13, 4, none⟩ = some (r_Mem348.val) ∧ w343.cell? ⟨b13, 5, none⟩ = some (.string r_Out349) ∧ w343.cell? ⟨b13, 6, none⟩ = some (.string r_In350) ∧ w343.cell? ⟨b13, 7, none⟩ = some (.int .i64 r_Read351) ∧ w343.cell? ⟨b13, 8, none⟩ = some (.int .i64 r_Status352) ∧ w343.cell? ⟨b13, 9, none⟩ = some (.int .i64 r_Code353) ∧
 K (.agg #[.int .i64 r_Ip344, .int .i64 r_Handler345, r_Stack346.val, r_Back347.val, r_Mem348.val, .string r_Out349, .string r_In350, .int .i64 r_Read351, .int .i64 r_Status352, .int .i64 r_Code353]) w343)
 (brB (decide ((wr ((wr ((s254.len : Int) - n249)) + n251)) > (48 : Int)))
 (∃ n_Ip354 : Int, ∃ n_Handler355 : Int, ∃ s_Stack356 : Sl, ∃ s_Back357 : Sl, ∃ s_Mem358 : Sl, ∃ t_Out359 : ByteArray, ∃ t_In360 : ByteArray, ∃ n_Read361 : Int, ∃ n_Status362 : Int, ∃ n_Code363 : Int, w252.cell? ⟨b11, 0, none⟩ = some (.int .i64 n_Ip354) ∧ w252.cell? ⟨b11, 1, none⟩ = some (.int .i64 n_Handler355) ∧ w252.cell? ⟨b11, 2, none⟩ = some (s_Stack356.val) ∧ w252.cell? ⟨b11, 3, none⟩ = some (s_Back357.val) ∧ w252.cell? ⟨b11, 4, none⟩ = some (s_Mem358.val) ∧ w252.cell? ⟨b11, 5, none⟩ = some (.string t_Out359) ∧ w252.cell? ⟨b11, 6, none⟩ = some (.string t_In360) ∧ w252.cell? ⟨b11, 7, none⟩ = some (.int .i64 n_Read361) ∧ w252.cell? ⟨b11, 8, none⟩ = some (.int .i64 n_Status362) ∧ w252.cell? ⟨b11, 9, none⟩ = some (.int .i64 n_Code363) ∧
 Calls Try.prog fn_hollowayref9_Fault #[.agg #[.int .i64 n_Ip354, .int .i64 n_Handler355, s_Stack356.val, s_Back357.val, s_Mem358.val, .string t_Out359, .string t_In360, .int .i64 n_Read361, .int .i64 n_Status362, .int .i64 n_Code363], .int .i64 (-5 : Int)] w252 fun e364 w365 => ∃ n_Ip366 : Int, ∃ n_Handler367 : Int, ∃ s_Stack368 : Sl, ∃ s_Back369 : Sl, ∃ s_Mem370 : Sl, ∃ t_Out371 : ByteArray, ∃ t_In372 : ByteArray, ∃ n_Read373 : Int, ∃ n_Status374 : Int, ∃ n_Code375 : Int, e364 = .returned (.agg #[.int .i64 n_Ip366, .int .i64 n_Handler367, s_Stack368.val, s_Back369.val, s_Mem370.val, .string t_Out371, .string t_In372, .int .i64 n_Read373, .int .i64 n_Status374, .int .i64 n_Code375]) ∧
 wrOk w365 ⟨b13, 0, none⟩ 10 ∧ ∀ w376 : World, w376 = stW w365 ⟨b13, 0, none⟩ 0 [.int .i64 n_Ip366, .int .i64 n_Handler367, s_Stack368.val, s_Back369.val, s_Mem370.val, .string t_Out371, .string t_In372, .int .i64 n_Read373, .int .i64 n_Status374, .int .i64 n_Code375] →
 ∃ r_Ip377 : Int, ∃ r_Handler378 : Int, ∃ r_Stack379 : Sl, ∃ r_Back380 : Sl, ∃ r_Mem381 : Sl, ∃ r_Out382 : ByteArray, ∃ r_In383 : ByteArray, ∃ r_Read384 : Int, ∃ r_Status385 : Int, ∃ r_Code386 : Int, w376.cell? ⟨b13, 0, none⟩ = some (.int .i64 r_Ip377) ∧ w376.cell? ⟨b13, 1, none⟩ = some (.int .i64 r_Handler378) ∧ w376.cell? ⟨b13, 2, none⟩ = some (r_Stack379.val) ∧ w376.cell? ⟨b13, 3, none⟩ = some (r_Back380.val) ∧ w376.cell? ⟨b13, 4, none⟩ = some (r_Mem381.val) ∧ w376.cell? ⟨b13, 5, none⟩ = some (.string r_Out382) ∧ w376.cell? ⟨b13, 6, none⟩ = some (.string r_In383) ∧ w376.cell? ⟨b13, 7, none⟩ = some (.int .i64 r_Read384) ∧ w376.cell? ⟨b13, 8, none⟩ = some (.int .i64 r_Status385) ∧ w376.cell? ⟨b13, 9, none⟩ = some (.int .i64 r_Code386) ∧
 K (.agg #[.int .i64 r_Ip377, .int .i64 r_Handler378, r_Stack379.val, r_Back380.val, r_Mem381.val, .string r_Out382, .string r_In383, .int .i64 r_Read384, .int .i64 r_Status385, .int .i64 r_Code386]) w376)
 (∃ J39 : Int → World → Prop, (∀ (p413 : Int) (w390 : World), J39 p413 w390 →
 ∃ J41 : Int → World → Prop, (∀ (q412 : Int) (w394 : World), J41 q412 w394 →
 ∃ J43 : Int → World → Prop, (∀ (r633 : Int) (w398 : World), J43 r633 w398 →
 ∃ n399 : Int, w398.cell? ⟨b59, 0, none⟩ = some (.int .i64 n399) ∧
 wrOk w398 ⟨b59, 0, none⟩ 1 ∧ ∀ w400 : World, w400 = stW w398 ⟨b59, 0, none⟩ 0 [.int .i64 (wr (n399 + (1 : Int)))] →
 ∃ J46 : World → Prop, (∀ (w406 : World), J46  w406 →
 ∃ s407 : Sl, w406.cell? ⟨b59, 2, none⟩ = some (s407.val) ∧
 0 ≤ (wr ((s253.len : Int) - n248)) ∧ (wr ((s253.len : Int) - n248)) ≤ (s407.cap : Int) ∧ ∀ s408 : Sl, s408 = Sl.sub s407.ptr s407.cap 0 (Int.toNat (wr ((s253.len : Int) - n248))) 1 →
 Calls Try.prog fn_hollowayref1_IsTwo #[.int .i64 n103] w406 fun e409 w410 => ∃ b411 : Bool, e409 = .returned (.bool b411) ∧
 brB b411
 (Calls Try.prog fn_hollowayref1_Two #[.int .i64 n103, .int .i64 q412, .int .i64 p413] w410 fun e414 w415 => ∃ n416 : Int, ∃ b417 : Bool, e414 = .returned (.tuple #[.int .i64 n416, .bool b417]) ∧
 brB (!b417)
 (∃ n_Ip418 : Int, ∃ n_Handler419 : Int, ∃ s_Stack420 : Sl, ∃ s_Back421 : Sl, ∃ s_Mem422 : Sl, ∃ t_Out423 : ByteArray, ∃ t_In424 : ByteArray, ∃ n_Read425 : Int, ∃ n_Status426 : Int, ∃ n_Code427 : Int, w415.cell? ⟨b11, 0, none⟩ = some (.int .i64 n_Ip418) ∧ w415.cell? ⟨b11, 1, none⟩ = some (.int .i64 n_Handler419) ∧ w415.cell? ⟨b11, 2, none⟩ = some (s_Stack420.val) ∧ w415.cell? ⟨b11, 3, none⟩ = some (s_Back421.val) ∧ w415.cell? ⟨b11, 4, none⟩ = some (s_Mem422.val) ∧ w415.cell? ⟨b11, 5, none⟩ = some (.string t_Out423) ∧ w415.cell? ⟨b11, 6, none⟩ = some (.string t_In424) ∧ w415.cell? ⟨b11, 7, none⟩ = some (.int .i64 n_Read425) ∧ w415.cell? ⟨b11, 8, none⟩ = some (.int .i64 n_Status426) ∧ w415.cell? ⟨b11, 9, none⟩ = some (.int .i64 n_Code427) ∧
 Calls Try.prog fn_hollowayref9_Fault #[.agg #[.int .i64 n_Ip418, .int .i64 n_Handler419, s_Stack420.val, s_Back421.val, s_Mem422.val, .string t_Out423, .string t_In424, .int .i64 n_Read425, .int .i64 n_Status426, .int .i64 n_Code427], .int .i64 (-10 : Int)] w415 fun e428 w429 => ∃ n_Ip430 : Int, ∃ n_Handler431 : Int, ∃ s_Stack432 : Sl, ∃ s_Back433 : Sl, ∃ s_Mem434 : Sl, ∃ t_Out435 : ByteArray, ∃ t_In436 : ByteArray, ∃ n_Read437 : Int, ∃ n_Status438 : Int, ∃ n_Code439 : Int, e428 = .returned (.agg #[.int .i64 n_Ip430, .int .i64 n_Handler431, s_Stack432.val, s_Back433.val, s_Mem434.val, .string t_Out435, .string t_In436, .int .i64 n_Read437, .int .i64 n_Status438, .int .i64 n_Code439]) ∧
 wrOk w429 ⟨b13, 0, none⟩ 10 ∧ ∀ w440 : World, w440 = stW w429 ⟨b13, 0, none⟩ 0 [.int .i64 n_Ip430, .int .i64 n_Handler431, s_Stack432.val, s_Back433.val, s_Mem434.val, .string t_Out435, .string t_In436, .int .i64 n_Read437, .int .i64 n_Status438, .int .i64 n_Code439] →
 ∃ r_Ip441 : Int, ∃ r_Handler442 : Int, ∃ r_Stack443 : Sl, ∃ r_Back444 : Sl, ∃ r_Mem445 : Sl, ∃ r_Out446 : ByteArray, ∃ r_In447 : ByteArray, ∃ r_Read448 : Int, ∃ r_Status449 : Int, ∃ r_Code450 : Int, w440.cell? ⟨b13, 0, none⟩ = some (.int .i64 r_Ip441) ∧ w440.cell? ⟨b13, 1, none⟩ = some (.int .i64 r_Handler442) ∧ w440.cell? ⟨b13, 2, none⟩ = some (r_Stack443.val) ∧ w440.cell? ⟨b13, 3, none⟩ = some (r_Back444.val) ∧ w440.cell? ⟨b13, 4, none⟩ = some (r_Mem445.val) ∧ w440.cell? ⟨b13, 5, none⟩ = some (.string r_Out446) ∧ w440.cell? ⟨b13, 6, none⟩ = some (.string r_In447) ∧ w440.cell? ⟨b13, 7, none⟩ = some (.int .i64 r_Read448) ∧ w440.cell? ⟨b13, 8, none⟩ = some (.int .i64 r_Status449) ∧ w440.cell? ⟨b13, 9, none⟩ = some (.int .i64 r_Code450) ∧
 K (.agg #[.int .i64 r_Ip441, .int .i64 r_Handler442, r_Stack443.val, r_Back444.val, r_Mem445.val, .string r_Out446, .string r_In447, .int .i64 r_Read448, .int .i64 r_Status449, .int .i64 r_Code450]) w440)
 (∀ (b451 : Nat) (w452 : World), b451 = w415.heap.size → w452 = World.alloc w415 (.cells #[.int .i64 n416] T_int) →
 ∃ s453 : Sl, ∃ w454 : World, (Builtin.append_ #[T_sl_int, T_sl_int] T_sl_int #[s408.val, .slice (some ⟨b451, 0, none⟩) 1 1]).run Try.prog w452 = .ok (s453.val) w454 ∧
 wrOk w454 ⟨b59, 2, none⟩ 1 ∧ ∀ w455 : World, w455 = stW w454 ⟨b59, 2, none⟩ 0 [s453.val] →
 ∃ n_Ip456 : Int, ∃ n_Handler457 : Int, ∃ s_Stack458 : Sl, ∃ s_Back459 : Sl, ∃ s_Mem460 : Sl, ∃ t_Out461 : ByteArray, ∃ t_In462 : ByteArray, ∃ n_Read463 : Int, ∃ n_Status464 : Int, ∃ n_Code465 : Int, w455.cell? ⟨b59, 0, none⟩ = some (.int .i64 n_Ip456) ∧ w455.cell? ⟨b59, 1, none⟩ = some (.int .i64 n_Handler457) ∧ w455.cell? ⟨b59, 2, none⟩ = some (s_Stack458.val) ∧ w455.cell? ⟨b59, 3, none⟩ = some (s_Back459.val) ∧ w455.cell? ⟨b59, 4, none⟩ = some (s_Mem460.val) ∧ w455.cell? ⟨b59, 5, none⟩ = some (.string t_Out461) ∧ w455.cell? ⟨b59, 6, none⟩ = some (.string t_In462) ∧ w455.cell? ⟨b59, 7, none⟩ = some (.int .i64 n_Read463) ∧ w455.cell? ⟨b59, 8, none⟩ = some (.int .i64 n_Status464) ∧ w455.cell? ⟨b59, 9, none⟩ = some (.int .i64 n_Code465) ∧
 wrOk w455 ⟨b13, 0, none⟩ 10 ∧ ∀ w466 : World, w466 = stW w455 ⟨b13, 0, none⟩ 0 [.int .i64 n_Ip456, .int .i64 n_Handler457, s_Stack458.val, s_Back459.val, s_Mem460.val, .string t_Out461, .string t_In462, .int .i64 n_Read463, .int .i64 n_Status464, .int .i64 n_Code465] →
 ∃ r_Ip467 : Int, ∃ r_Handler468 : Int, ∃ r_Stack469 : Sl, ∃ r_Back470 : Sl, ∃ r_Mem471 : Sl, ∃ r_Out472 : ByteArray, ∃ r_In473 : ByteArray, ∃ r_Read474 : Int, ∃ r_Status475 : Int, ∃ r_Code476 : Int, w466.cell? ⟨b13, 0, none⟩ = some (.int .i64 r_Ip467) ∧ w466.cell? ⟨b13, 1, none⟩ = some (.int .i64 r_Handler468) ∧ w466.cell? ⟨b13, 2, none⟩ = some (r_Stack469.val) ∧ w466.cell? ⟨b13, 3, none⟩ = some (r_Back470.val) ∧ w466.cell? ⟨b13, 4, none⟩ = some (r_Mem471.val) ∧ w466.cell? ⟨b13, 5, none⟩ = some (.string r_Out472) ∧ w466.cell? ⟨b13, 6, none⟩ = some (.string r_In473) ∧ w466.cell? ⟨b13, 7, none⟩ = some (.int .i64 r_Read474) ∧ w466.cell? ⟨b13, 8, none⟩ = some (.int .i64 r_Status475) ∧ w466.cell? ⟨b13, 9, none⟩ = some (.int .i64 r_Code476) ∧
 K (.agg #[.int .i64 r_Ip467, .int .i64 r_Handler468, r_Stack469.val, r_Back470.val, r_Mem471.val, .string r_Out472, .string r_In473, .int .i64 r_Read474, .int .i64 r_Status475, .int .i64 r_Code476]) w466))
 (Calls Try.prog fn_hollowayref1_IsOne #[.int .i64 n103] w410 fun e477 w478 => ∃ b479 : Bool, e477 = .returned (.bool b479) ∧
 brB b479
 (Calls Try.prog fn_hollowayref1_One #[.int .i64 n103, .int .i64 p413] w478 fun e480 w481 => ∃ n482 : Int, ∃ b483 : Bool, e480 = .returned (.tuple #[.int .i64 n482, .bool b483]) ∧
 ∀ (b484 : Nat) (w485 : World), b484 = w481.heap.size → w485 = World.alloc w481 (.cells #[.int .i64 n482] T_int) →
 ∃ s486 : Sl, ∃ w487 : World, (Builtin.append_ #[T_sl_int, T_sl_int] T_sl_int #[s408.val, .slice (some ⟨b484, 0, none⟩) 1 1]).run Try.prog w485 = .ok (s486.val) w487 ∧
 wrOk w487 ⟨b59, 2, none⟩ 1 ∧ ∀ w488 : World, w488 = stW w487 ⟨b59, 2, none⟩ 0 [s486.val] →
 ∃ n_Ip489 : Int, ∃ n_Handler490 : Int, ∃ s_Stack491 : Sl, ∃ s_Back492 : Sl, ∃ s_Mem493 : Sl, ∃ t_Out494 : ByteArray, ∃ t_In495 : ByteArray, ∃ n_Read496 : Int, ∃ n_Status497 : Int, ∃ n_Code498 : Int, w488.cell? ⟨b59, 0, none⟩ = some (.int .i64 n_Ip489) ∧ w488.cell? ⟨b59, 1, none⟩ = some (.int .i64 n_Handler490) ∧ w488.cell? ⟨b59, 2, none⟩ = some (s_Stack491.val) ∧ w488.cell? ⟨b59, 3, none⟩ = some (s_Back492.val) ∧ w488.cell? ⟨b59, 4, none⟩ = some (s_Mem493.val) ∧ w488.cell? ⟨b59, 5, none⟩ = some (.string t_Out494) ∧ w488.cell? ⟨b59, 6, none⟩ = some (.string t_In495) ∧ w488.cell? ⟨b59, 7, none⟩ = some (.int .i64 n_Read496) ∧ w488.cell? ⟨b59, 8, none⟩ = some (.int .i64 n_Status497) ∧ w488.cell? ⟨b59, 9, none⟩ = some (.int .i64 n_Code498) ∧
 wrOk w488 ⟨b13, 0, none⟩ 10 ∧ ∀ w499 : World, w499 = stW w488 ⟨b13, 0, none⟩ 0 [.int .i64 n_Ip489, .int .i64 n_Handler490, s_Stack491.val, s_Back492.val, s_Mem493.val, .string t_Out494, .string t_In495, .int .i64 n_Read496, .int .i64 n_Status497, .int .i64 n_Code498] →
 ∃ r_Ip500 : Int, ∃ r_Handler501 : Int, ∃ r_Stack502 : Sl, ∃ r_Back503 : Sl, ∃ r_Mem504 : Sl, ∃ r_Out505 : ByteArray, ∃ r_In506 : ByteArray, ∃ r_Read507 : Int, ∃ r_Status508 : Int, ∃ r_Code509 : Int, w499.cell? ⟨b13, 0, none⟩ = some (.int .i64 r_Ip500) ∧ w499.cell? ⟨b13, 1, none⟩ = some (.int .i64 r_Handler501) ∧ w499.cell? ⟨b13, 2, none⟩ = some (r_Stack502.val) ∧ w499.cell? ⟨b13, 3, none⟩ = some (r_Back503.val) ∧ w499.cell? ⟨b13, 4, none⟩ = some (r_Mem504.val) ∧ w499.cell? ⟨b13, 5, none⟩ = some (.string r_Out505) ∧ w499.cell? ⟨b13, 6, none⟩ = some (.string r_In506) ∧ w499.cell? ⟨b13, 7, none⟩ = some (.int .i64 r_Read507) ∧ w499.cell? ⟨b13, 8, none⟩ = some (.int .i64 r_Status508) ∧ w499.cell? ⟨b13, 9, none⟩ = some (.int .i64 r_Code509) ∧
 K (.agg #[.int .i64 r_Ip500, .int .i64 r_Handler501, r_Stack502.val, r_Back503.val, r_Mem504.val, .string r_Out505, .string r_In506, .int .i64 r_Read507, .int .i64 r_Status508, .int .i64 r_Code509]) w499)
 (∃ J62 : World → Prop, (∀ (w924 : World), J62  w924 →
 ∃ n_Ip925 : Int, ∃ n_Handler926 : Int, ∃ s_Stack927 : Sl, ∃ s_Back928 : Sl, ∃ s_Mem929 : Sl, ∃ t_Out930 : ByteArray, ∃ t_In931 : ByteArray, ∃ n_Read932 : Int, ∃ n_Status933 : Int, ∃ n_Code934 : Int, w924.cell? ⟨b59, 0, none⟩ = some (.int .i64 n_Ip925) ∧ w924.cell? ⟨b59, 1, none⟩ = some (.int .i64 n_Handler926) ∧ w924.cell? ⟨b59, 2, none⟩ = some (s_Stack927.val) ∧ w924.cell? ⟨b59, 3, none⟩ = some (s_Back928.val) ∧ w924.cell? ⟨b59, 4, none⟩ = some (s_Mem929.val) ∧ w924.cell? ⟨b59, 5, none⟩ = some (.string t_Out930) ∧ w924.cell? ⟨b59, 6, none⟩ = some (.string t_In931) ∧ w924.cell? ⟨b59, 7, none⟩ = some (.int .i64 n_Read932) ∧ w924.cell? ⟨b59, 8, none⟩ = some (.int .i64 n_Status933) ∧ w924.cell? ⟨b59, 9, none⟩ = some (.int .i64 n_Code934) ∧
 wrOk w924 ⟨b13, 0, none⟩ 10 ∧ ∀ w935 : World, w935 = stW w924 ⟨b13, 0, none⟩ 0 [.int .i64 n_Ip925, .int .i64 n_Handler926, s_Stack927.val, s_Back928.val, s_Mem929.val, .string t_Out930, .string t_In931, .int .i64 n_Read932, .int .i64 n_Status933, .int .i64 n_Code934] →
 ∃ r_Ip936 : Int, ∃ r_Handler937 : Int, ∃ r_Stack938 : Sl, ∃ r_Back939 : Sl, ∃ r_Mem940 : Sl, ∃ r_Out941 : ByteArray, ∃ r_In942 : ByteArray, ∃ r_Read943 : Int, ∃ r_Status944 : Int, ∃ r_Code945 : Int, w935.cell? ⟨b13, 0, none⟩ = some (.int .i64 r_Ip936) ∧ w935.cell? ⟨b13, 1, none⟩ = some (.int .i64 r_Handler937) ∧ w935.cell? ⟨b13, 2, none⟩ = some (r_Stack938.val) ∧ w935.cell? ⟨b13, 3, none⟩ = some (r_Back939.val) ∧ w935.cell? ⟨b13, 4, none⟩ = some (r_Mem940.val) ∧ w935.cell? ⟨b13, 5, none⟩ = some (.string r_Out941) ∧ w935.cell? ⟨b13, 6, none⟩ = some (.string r_In942) ∧ w935.cell? ⟨b13, 7, none⟩ = some (.int .i64 r_Read943) ∧ w935.cell? ⟨b13, 8, none⟩ = some (.int .i64 r_Status944) ∧ w935.cell? ⟨b13, 9, none⟩ = some (.int .i64 r_Code945) ∧
 K (.agg #[.int .i64 r_Ip936, .int .i64 r_Handler937, r_Stack938.val, r_Back939.val, r_Mem940.val, .string r_Out941, .string r_In942, .int .i64 r_Read943, .int .i64 r_Status944, .int .i64 r_Code945]) w935) ∧
 brB (n103 == (0 : Int))
 (∃ n510 : Int, w478.cell? ⟨b59, 0, none⟩ = some (.int .i64 n510) ∧
 wrOk w478 ⟨b59, 0, none⟩ 1 ∧ ∀ w511 : World, w511 = stW w478 ⟨b59, 0, none⟩ 0 [.int .i64 (wr (n510 - (1 : Int)))] →
 wrOk w511 ⟨b59, 8, none⟩ 1 ∧ ∀ w512 : World, w512 = stW w511 ⟨b59, 8, none⟩ 0 [.int .i64 (1 : Int)] →
 J62  w512)
 (brB (n103 == (1 : Int))
 (∃ n513 : Int, w478.cell? ⟨b59, 1, none⟩ = some (.int .i64 n513) ∧
 ∃ J69 : Bool → World → Prop, (∀ (b515 : Bool) (w514 : World), J69 b515 w514 →
 brB b515
 (∃ n_Ip516 : Int, ∃ n_Handler517 : Int, ∃ s_Stack518 : Sl, ∃ s_Back519 : Sl, ∃ s_Mem520 : Sl, ∃ t_Out521 : ByteArray, ∃ t_In522 : ByteArray, ∃ n_Read523 : Int, ∃ n_Status524 : Int, ∃ n_Code525 : Int, w514.cell? ⟨b11, 0, none⟩ = some (.int .i64 n_Ip516) ∧ w514.cell? ⟨b11, 1, none⟩ = some (.int .i64 n_Handler517) ∧ w514.cell? ⟨b11, 2, none⟩ = some (s_Stack518.val) ∧ w514.cell? ⟨b11, 3, none⟩ = some (s_Back519.val) ∧ w514.cell? ⟨b11, 4, none⟩ = some (s_Mem520.val) ∧ w514.cell? ⟨b11, 5, none⟩ = some (.string t_Out521) ∧ w514.cell? ⟨b11, 6, none⟩ = some (.string t_In522) ∧ w514.cell? ⟨b11, 7, none⟩ = some (.int .i64 n_Read523) ∧ w514.cell? ⟨b11, 8, none⟩ = some (.int .i64 n_Status524) ∧ w514.cell? ⟨b11, 9, none⟩ = some (.int .i64 n_Code525) ∧
 Calls Try.prog fn_hollowayref9_Fault #[.agg #[.int .i64 n_Ip516, .int .i64 n_Handler517, s_Stack518.val, s_Back519.val, s_Mem520.val, .string t_Out521, .string t_In522, .int .i64 n_Read523, .int .i64 n_Status524, .int .i64 n_Code525], .int .i64 (-25 : Int)] w514 fun e526 w527 => ∃ n_Ip528 : Int, ∃ n_Handler529 : Int, ∃ s_Stack530 : Sl, ∃ s_Back531 : Sl, ∃ s_Mem532 : Sl, ∃ t_Out533 : ByteArray, ∃ t_In534 : ByteArray, ∃ n_Read535 : Int, ∃ n_Status536 : Int, ∃ n_Code537 : Int, e526 = .returned (.agg #[.int .i64 n_Ip528, .int .i64 n_Handler529, s_Stack530.val, s_Back531.val, s_Mem532.val, .string t_Out533, .string t_In534, .int .i64 n_Read535, .int .i64 n_Status536, .int .i64 n_Code537]) ∧
 wrOk w527 ⟨b13, 0, none⟩ 10 ∧ ∀ w538 : World, w538 = stW w527 ⟨b13, 0, none⟩ 0 [.int .i64 n_Ip528, .int .i64 n_Handler529, s_Stack530.val, s_Back531.val, s_Mem532.val, .string t_Out533, .string t_In534, .int .i64 n_Read535, .int .i64 n_Status536, .int .i64 n_Code537] →
 ∃ r_Ip539 : Int, ∃ r_Handler540 : Int, ∃ r_Stack541 : Sl, ∃ r_Back542 : Sl, ∃ r_Mem543 : Sl, ∃ r_Out544 : ByteArray, ∃ r_In545 : ByteArray, ∃ r_Read546 : Int, ∃ r_Status547 : Int, ∃ r_Code548 : Int, w538.cell? ⟨b13, 0, none⟩ = some (.int .i64 r_Ip539) ∧ w538.cell? ⟨b13, 1, none⟩ = some (.int .i64 r_Handler540) ∧ w538.cell? ⟨b13, 2, none⟩ = some (r_Stack541.val) ∧ w538.cell? ⟨b13, 3, none⟩ = some (r_Back542.val) ∧ w538.cell? ⟨b13, 4, none⟩ = some (r_Mem543.val) ∧ w538.cell? ⟨b13, 5, none⟩ = some (.string r_Out544) ∧ w538.cell? ⟨b13, 6, none⟩ = some (.string r_In545) ∧ w538.cell? ⟨b13, 7, none⟩ = some (.int .i64 r_Read546) ∧ w538.cell? ⟨b13, 8, none⟩ = some (.int .i64 r_Status547) ∧ w538.cell? ⟨b13, 9, none⟩ = some (.int .i64 r_Code548) ∧
 K (.agg #[.int .i64 r_Ip539, .int .i64 r_Handler540, r_Stack541.val, r_Back542.val, r_Mem543.val, .string r_Out544, .string r_In545, .int .i64 r_Read546, .int .i64 r_Status547, .int .i64 r_Code548]) w538)
 (brB (decide ((s253.len : Int) ≥ (48 : Int)))
 (∃ n_Ip549 : Int, ∃ n_Handler550 : Int, ∃ s_Stack551 : Sl, ∃ s_Back552 : Sl, ∃ s_Mem553 : Sl, ∃ t_Out554 : ByteArray, ∃ t_In555 : ByteArray, ∃ n_Read556 : Int, ∃ n_Status557 : Int, ∃ n_Code558 : Int, w514.cell? ⟨b11, 0, none⟩ = some (.int .i64 n_Ip549) ∧ w514.cell? ⟨b11, 1, none⟩ = some (.int .i64 n_Handler550) ∧ w514.cell? ⟨b11, 2, none⟩ = some (s_Stack551.val) ∧ w514.cell? ⟨b11, 3, none⟩ = some (s_Back552.val) ∧ w514.cell? ⟨b11, 4, none⟩ = some (s_Mem553.val) ∧ w514.cell? ⟨b11, 5, none⟩ = some (.string t_Out554) ∧ w514.cell? ⟨b11, 6, none⟩ = some (.string t_In555) ∧ w514.cell? ⟨b11, 7, none⟩ = some (.int .i64 n_Read556) ∧ w514.cell? ⟨b11, 8, none⟩ = some (.int .i64 n_Status557) ∧ w514.cell? ⟨b11, 9, none⟩ = some (.int .i64 n_Code558) ∧
 Calls Try.prog fn_hollowayref9_Fault #[.agg #[.int .i64 n_Ip549, .int .i64 n_Handler550, s_Stack551.val, s_Back552.val, s_Mem553.val, .string t_Out554, .string t_In555, .int .i64 n_Read556, .int .i64 n_Status557, .int .i64 n_Code558], .int .i64 (-3 : Int)] w514 fun e559 w560 => ∃ n_Ip561 : Int, ∃ n_Handler562 : Int, ∃ s_Stack563 : Sl, ∃ s_Back564 : Sl, ∃ s_Mem565 : Sl, ∃ t_Out566 : ByteArray, ∃ t_In567 : ByteArray, ∃ n_Read568 : Int, ∃ n_Status569 : Int, ∃ n_Code570 : Int, e559 = .returned (.agg #[.int .i64 n_Ip561, .int .i64 n_Handler562, s_Stack563.val, s_Back564.val, s_Mem565.val, .string t_Out566, .string t_In567, .int .i64 n_Read568, .int .i64 n_Status569, .int .i64 n_Code570]) ∧
 wrOk w560 ⟨b13, 0, none⟩ 10 ∧ ∀ w571 : World, w571 = stW w560 ⟨b13, 0, none⟩ 0 [.int .i64 n_Ip561, .int .i64 n_Handler562, s_Stack563.val, s_Back564.val, s_Mem565.val, .string t_Out566, .string t_In567, .int .i64 n_Read568, .int .i64 n_Status569, .int .i64 n_Code570] →
 ∃ r_Ip572 : Int, ∃ r_Handler573 : Int, ∃ r_Stack574 : Sl, ∃ r_Back575 : Sl, ∃ r_Mem576 : Sl, ∃ r_Out577 : ByteArray, ∃ r_In578 : ByteArray, ∃ r_Read579 : Int, ∃ r_Status580 : Int, ∃ r_Code581 : Int, w571.cell? ⟨b13, 0, none⟩ = some (.int .i64 r_Ip572) ∧ w571.cell? ⟨b13, 1, none⟩ = some (.int .i64 r_Handler573) ∧ w571.cell? ⟨b13, 2, none⟩ = some (r_Stack574.val) ∧ w571.cell? ⟨b13, 3, none⟩ = some (r_Back575.val) ∧ w571.cell? ⟨b13, 4, none⟩ = some (r_Mem576.val) ∧ w571.cell? ⟨b13, 5, none⟩ = some (.string r_Out577) ∧ w571.cell? ⟨b13, 6, none⟩ = some (.string r_In578) ∧ w571.cell? ⟨b13, 7, none⟩ = some (.int .i64 r_Read579) ∧ w571.cell? ⟨b13, 8, none⟩ = some (.int .i64 r_Status580) ∧ w571.cell? ⟨b13, 9, none⟩ = some (.int .i64 r_Code581) ∧
 K (.agg #[.int .i64 r_Ip572, .int .i64 r_Handler573, r_Stack574.val, r_Back575.val, r_Mem576.val, .string r_Out577, .string r_In578, .int .i64 r_Read579, .int .i64 r_Status580, .int .i64 r_Code581]) w571)
 (∀ w582 : World, w582 = World.drew w514 →
 ∃ S583 : World → Prop, S583 w582 ∧
 ∃ s584 : Sl, held S583 ⟨b59, 3, none⟩ (s584.val) ∧
 ∃ a585 : Addr, s584.ptr = some a585 ∧ 0 ≤ (wr (n513 - (3 : Int))) ∧ (wr (n513 - (3 : Int))) < (s584.len : Int) ∧
 ∃ n586 : Int, held S583 (Addr.add a585 (Int.toNat (wr (n513 - (3 : Int))) * 1)) (.int .i64 n586) ∧
 ∃ s587 : Sl, held S583 ⟨b59, 3, none⟩ (s587.val) ∧
 ∃ a588 : Addr, s587.ptr = some a588 ∧ 0 ≤ (wr (n513 - (2 : Int))) ∧ (wr (n513 - (2 : Int))) < (s587.len : Int) ∧
 ∃ n589 : Int, held S583 (Addr.add a588 (Int.toNat (wr (n513 - (2 : Int))) * 1)) (.int .i64 n589) ∧
 wrOk w582 ⟨b59, 0, none⟩ 1 ∧ ∀ w590 : World, w590 = stW w582 ⟨b59, 0, none⟩ 0 [.int .i64 n586] →
 S583 w590 ∧
 wrOk w590 ⟨b59, 1, none⟩ 1 ∧ ∀ w591 : World, w591 = stW w590 ⟨b59, 1, none⟩ 0 [.int .i64 n589] →
 ∃ s592 : Sl, w591.cell? ⟨b59, 3, none⟩ = some (s592.val) ∧
 0 ≤ (wr (n513 - (3 : Int))) ∧ (wr (n513 - (3 : Int))) ≤ (s592.cap : Int) ∧ ∀ s593 : Sl, s593 = Sl.sub s592.ptr s592.cap 0 (Int.toNat (wr (n513 - (3 : Int)))) 1 →
 wrOk w591 ⟨b59, 3, none⟩ 1 ∧ ∀ w594 : World, w594 = stW w591 ⟨b59, 3, none⟩ 0 [s593.val] →
 ∃ s595 : Sl, w594.cell? ⟨b59, 2, none⟩ = some (s595.val) ∧
 ∀ (b596 : Nat) (w597 : World), b596 = w594.heap.size → w597 = World.alloc w594 (.cells #[.int .i64 (0 : Int)] T_int) →
 ∃ s598 : Sl, ∃ w599 : World, (Builtin.append_ #[T_sl_int, T_sl_int] T_sl_int #[s595.val, .slice (some ⟨b596, 0, none⟩) 1 1]).run Try.prog w597 = .ok (s598.val) w599 ∧
 wrOk w599 ⟨b59, 2, none⟩ 1 ∧ ∀ w600 : World, w600 = stW w599 ⟨b59, 2, none⟩ 0 [s598.val] →
 J62  w600))) ∧
 brB (decide (n513 < (3 : Int)))
 (J69 true w478)
 (J69 ((s254.len : Int) != n513) w478))
 (brB (n103 == (2 : Int))
 (∀ (b602 : Nat) (w603 : World), b602 = w478.heap.size → w603 = World.alloc w478 (.cells #[.int .i64 arg601] T_int) →
 ∃ s604 : Sl, ∃ w605 : World, (Builtin.append_ #[T_sl_int, T_sl_int] T_sl_int #[s408.val, .slice (some ⟨b602, 0, none⟩) 1 1]).run Try.prog w603 = .ok (s604.val) w605 ∧
 wrOk w605 ⟨b59, 2, none⟩ 1 ∧ ∀ w606 : World, w606 = stW w605 ⟨b59, 2, none⟩ 0 [s604.val] →
 J62  w606)
 (brB (n103 == (3 : Int))
 (wrOk w478 ⟨b59, 0, none⟩ 1 ∧ ∀ w607 : World, w607 = stW w478 ⟨b59, 0, none⟩ 0 [.int .i64 arg601] →
 J62  w607)
 (brB (n103 == (4 : Int))
 (wrOk w478 ⟨b59, 2, none⟩ 1 ∧ ∀ w608 : World, w608 = stW w478 ⟨b59, 2, none⟩ 0 [s408.val] →
 brB (p413 == (0 : Int))
 (wrOk w608 ⟨b59, 0, none⟩ 1 ∧ ∀ w609 : World, w609 = stW w608 ⟨b59, 0, none⟩ 0 [.int .i64 arg601] →
 J62  w609)
 (J62  w608))
 (brB (n103 == (5 : Int))
 (∃ s610 : Sl, w478.cell? ⟨b59, 3, none⟩ = some (s610.val) ∧
 ∃ a611 : Addr, s610.ptr = some a611 ∧ 0 ≤ (wr ((s254.len : Int) - (1 : Int))) ∧ (wr ((s254.len : Int) - (1 : Int))) < (s610.len : Int) ∧
 ∃ n612 : Int, w478.cell? (Addr.add a611 (Int.toNat (wr ((s254.len : Int) - (1 : Int))) * 1)) = some (.int .i64 n612) ∧
 wrOk w478 ⟨b59, 0, none⟩ 1 ∧ ∀ w613 : World, w613 = stW w478 ⟨b59, 0, none⟩ 0 [.int .i64 n612] →
 ∃ s614 : Sl, w613.cell? ⟨b59, 3, none⟩ = some (s614.val) ∧
 0 ≤ (wr ((s254.len : Int) - (1 : Int))) ∧ (wr ((s254.len : Int) - (1 : Int))) ≤ (s614.cap : Int) ∧ ∀ s615 : Sl, s615 = Sl.sub s614.ptr s614.cap 0 (Int.toNat (wr ((s254.len : Int) - (1 : Int)))) 1 →
 wrOk w613 ⟨b59, 3, none⟩ 1 ∧ ∀ w616 : World, w616 = stW w613 ⟨b59, 3, none⟩ 0 [s615.val] →
 J62  w616)
 (brB (n103 == (6 : Int))
 (∀ (b617 : Nat) (w618 : World), b617 = w478.heap.size → w618 = World.alloc w478 (.cells #[.int .i64 p413, .int .i64 p413] T_int) →
 ∃ s619 : Sl, ∃ w620 : World, (Builtin.append_ #[T_sl_int, T_sl_int] T_sl_int #[s408.val, .slice (some ⟨b617, 0, none⟩) 2 2]).run Try.prog w618 = .ok (s619.val) w620 ∧
 wrOk w620 ⟨b59, 2, none⟩ 1 ∧ ∀ w621 : World, w621 = stW w620 ⟨b59, 2, none⟩ 0 [s619.val] →
 J62  w621)
 (brB (n103 == (7 : Int))
 (wrOk w478 ⟨b59, 2, none⟩ 1 ∧ ∀ w622 : World, w622 = stW w478 ⟨b59, 2, none⟩ 0 [s408.val] →
 J62  w622)
 (brB (n103 == (8 : Int))
 (∀ (b623 : Nat) (w624 : World), b623 = w478.heap.size → w624 = World.alloc w478 (.cells #[.int .i64 p413, .int .i64 q412] T_int) →
 ∃ s625 : Sl, ∃ w626 : World, (Builtin.append_ #[T_sl_int, T_sl_int] T_sl_int #[s408.val, .slice (some ⟨b623, 0, none⟩) 2 2]).run Try.prog w624 = .ok (s625.val) w626 ∧
 wrOk w626 ⟨b59, 2, none⟩ 1 ∧ ∀ w627 : World, w627 = stW w626 ⟨b59, 2, none⟩ 0 [s625.val] →
 J62  w627)
 (brB (n103 == (9 : Int))
 (∀ (b628 : Nat) (w629 : World), b628 = w478.heap.size → w629 = World.alloc w478 (.cells #[.int .i64 q412, .int .i64 p413, .int .i64 q412] T_int) →
 ∃ s630 : Sl, ∃ w631 : World, (Builtin.append_ #[T_sl_int, T_sl_int] T_sl_int #[s408.val, .slice (some ⟨b628, 0, none⟩) 3 3]).run Try.prog w629 = .ok (s630.val) w631 ∧
 wrOk w631 ⟨b59, 2, none⟩ 1 ∧ ∀ w632 : World, w632 = stW w631 ⟨b59, 2, none⟩ 0 [s630.val] →
 J62  w632)
 (brB (n103 == (10 : Int))
 (∀ (b634 : Nat) (w635 : World), b634 = w478.heap.size → w635 = World.alloc w478 (.cells #[.int .i64 q412, .int .i64 p413, .int .i64 r633] T_int) →
 ∃ s636 : Sl, ∃ w637 : World, (Builtin.append_ #[T_sl_int, T_sl_int] T_sl_int #[s408.val, .slice (some ⟨b634, 0, none⟩) 3 3]).run Try.prog w635 = .ok (s636.val) w637 ∧
 wrOk w637 ⟨b59, 2, none⟩ 1 ∧ ∀ w638 : World, w638 = stW w637 ⟨b59, 2, none⟩ 0 [s636.val] →
 J62  w638)
 (∃ J88 : Bool → World → Prop, (∀ (b640 : Bool) (w639 : World), J88 b640 w639 →
 brB b640
 (∃ J92 : Bool → World → Prop, (∀ (b643 : Bool) (w642 : World), J92 b643 w642 →
 brB b643
 (∃ n_Ip644 : Int, ∃ n_Handler645 : Int, ∃ s_Stack646 : Sl, ∃ s_Back647 : Sl, ∃ s_Mem648 : Sl, ∃ t_Out649 : ByteArray, ∃ t_In650 : ByteArray, ∃ n_Read651 : Int, ∃ n_Status652 : Int, ∃ n_Code653 : Int, w642.cell? ⟨b11, 0, none⟩ = some (.int .i64 n_Ip644) ∧ w642.cell? ⟨b11, 1, none⟩ = some (.int .i64 n_Handler645) ∧ w642.cell? ⟨b11, 2, none⟩ = some (s_Stack646.val) ∧ w642.cell? ⟨b11, 3, none⟩ = some (s_Back647.val) ∧ w642.cell? ⟨b11, 4, none⟩ = some (s_Mem648.val) ∧ w642.cell? ⟨b11, 5, none⟩ = some (.string t_Out649) ∧ w642.cell? ⟨b11, 6, none⟩ = some (.string t_In650) ∧ w642.cell? ⟨b11, 7, none⟩ = some (.int .i64 n_Read651) ∧ w642.cell? ⟨b11, 8, none⟩ = some (.int .i64 n_Status652) ∧ w642.cell? ⟨b11, 9, none⟩ = some (.int .i64 n_Code653) ∧
 Calls Try.prog fn_hollowayref9_Fault #[.agg #[.int .i64 n_Ip644, .int .i64 n_Handler645, s_Stack646.val, s_Back647.val, s_Mem648.val, .string t_Out649, .string t_In650, .int .i64 n_Read651, .int .i64 n_Status652, .int .i64 n_Code653], .int .i64 (-9 : Int)] w642 fun e654 w655 => ∃ n_Ip656 : Int, ∃ n_Handler657 : Int, ∃ s_Stack658 : Sl, ∃ s_Back659 : Sl, ∃ s_Mem660 : Sl, ∃ t_Out661 : ByteArray, ∃ t_In662 : ByteArray, ∃ n_Read663 : Int, ∃ n_Status664 : Int, ∃ n_Code665 : Int, e654 = .returned (.agg #[.int .i64 n_Ip656, .int .i64 n_Handler657, s_Stack658.val, s_Back659.val, s_Mem660.val, .string t_Out661, .string t_In662, .int .i64 n_Read663, .int .i64 n_Status664, .int .i64 n_Code665]) ∧
 wrOk w655 ⟨b13, 0, none⟩ 10 ∧ ∀ w666 : World, w666 = stW w655 ⟨b13, 0, none⟩ 0 [.int .i64 n_Ip656, .int .i64 n_Handler657, s_Stack658.val, s_Back659.val, s_Mem660.val, .string t_Out661, .string t_In662, .int .i64 n_Read663, .int .i64 n_Status664, .int .i64 n_Code665] →
 ∃ r_Ip667 : Int, ∃ r_Handler668 : Int, ∃ r_Stack669 : Sl, ∃ r_Back670 : Sl, ∃ r_Mem671 : Sl, ∃ r_Out672 : ByteArray, ∃ r_In673 : ByteArray, ∃ r_Read674 : Int, ∃ r_Status675 : Int, ∃ r_Code676 : Int, w666.cell? ⟨b13, 0, none⟩ = some (.int .i64 r_Ip667) ∧ w666.cell? ⟨b13, 1, none⟩ = some (.int .i64 r_Handler668) ∧ w666.cell? ⟨b13, 2, none⟩ = some (r_Stack669.val) ∧ w666.cell? ⟨b13, 3, none⟩ = some (r_Back670.val) ∧ w666.cell? ⟨b13, 4, none⟩ = some (r_Mem671.val) ∧ w666.cell? ⟨b13, 5, none⟩ = some (.string r_Out672) ∧ w666.cell? ⟨b13, 6, none⟩ = some (.string r_In673) ∧ w666.cell? ⟨b13, 7, none⟩ = some (.int .i64 r_Read674) ∧ w666.cell? ⟨b13, 8, none⟩ = some (.int .i64 r_Status675) ∧ w666.cell? ⟨b13, 9, none⟩ = some (.int .i64 r_Code676) ∧
 K (.agg #[.int .i64 r_Ip667, .int .i64 r_Handler668, r_Stack669.val, r_Back670.val, r_Mem671.val, .string r_Out672, .string r_In673, .int .i64 r_Read674, .int .i64 r_Status675, .int .i64 r_Code676]) w666)
 (wrOk w642 ⟨b59, 2, none⟩ 1 ∧ ∀ w677 : World, w677 = stW w642 ⟨b59, 2, none⟩ 0 [s408.val] →
 brB (n103 == (30 : Int))
 (∃ s678 : Sl, w677.cell? ⟨b59, 4, none⟩ = some (s678.val) ∧
 ∃ a679 : Addr, s678.ptr = some a679 ∧ 0 ≤ p413 ∧ p413 < (s678.len : Int) ∧
 ∃ n680 : Int, w677.cell? (Addr.add a679 (Int.toNat p413 * 1)) = some (.int .i64 n680) ∧
 ∀ (b681 : Nat) (w682 : World), b681 = w677.heap.size → w682 = World.alloc w677 (.cells #[.int .i64 n680] T_int) →
 ∃ s683 : Sl, ∃ w684 : World, (Builtin.append_ #[T_sl_int, T_sl_int] T_sl_int #[s408.val, .slice (some ⟨b681, 0, none⟩) 1 1]).run Try.prog w682 = .ok (s683.val) w684 ∧
 wrOk w684 ⟨b59, 2, none⟩ 1 ∧ ∀ w685 : World, w685 = stW w684 ⟨b59, 2, none⟩ 0 [s683.val] →
 J62  w685)
 (brB (n103 == (31 : Int))
 (∃ s686 : Sl, w677.cell? ⟨b59, 4, none⟩ = some (s686.val) ∧
 ∃ a687 : Addr, s686.ptr = some a687 ∧ 0 ≤ p413 ∧ p413 < (s686.len : Int) ∧
 wrOk w677 (Addr.add a687 (Int.toNat p413 * 1)) 1 ∧ ∀ w688 : World, w688 = stW w677 (Addr.add a687 (Int.toNat p413 * 1)) 0 [.int .i64 q412] →
 J62  w688)
 (∀ w689 : World, w689 = World.drew w677 →
 ∃ s690 : Sl, held (Lw w689) ⟨b59, 4, none⟩ (s690.val) ∧
 ∃ s691 : Sl, held (Lw w689) ⟨b59, 4, none⟩ (s691.val) ∧
 ∃ a692 : Addr, s691.ptr = some a692 ∧ 0 ≤ p413 ∧ p413 < (s691.len : Int) ∧
 ∃ n693 : Int, held (Lw w689) (Addr.add a692 (Int.toNat p413 * 1)) (.int .i64 n693) ∧
 ∃ a694 : Addr, s690.ptr = some a694 ∧ 0 ≤ p413 ∧ p413 < (s690.len : Int) ∧
 wrOk w689 (Addr.add a694 (Int.toNat p413 * 1)) 1 ∧ ∀ w695 : World, w695 = stW w689 (Addr.add a694 (Int.toNat p413 * 1)) 0 [.int .i64 (wr (n693 + q412))] →
 J62  w695)))) ∧
 brB (decide (p413 < (0 : Int)))
 (J92 true w639)
 (∃ s641 : Sl, w639.cell? ⟨b59, 4, none⟩ = some (s641.val) ∧
 J92 (decide (p413 ≥ (s641.len : Int))) w639))
 (brB (n103 == (33 : Int))
 (wrOk w639 ⟨b59, 2, none⟩ 1 ∧ ∀ w696 : World, w696 = stW w639 ⟨b59, 2, none⟩ 0 [s408.val] →
 ∃ s697 : Sl, w696.cell? ⟨b59, 3, none⟩ = some (s697.val) ∧
 ∀ (b698 : Nat) (w699 : World), b698 = w696.heap.size → w699 = World.alloc w696 (.cells #[.int .i64 p413] T_int) →
 ∃ s700 : Sl, ∃ w701 : World, (Builtin.append_ #[T_sl_int, T_sl_int] T_sl_int #[s697.val, .slice (some ⟨b698, 0, none⟩) 1 1]).run Try.prog w699 = .ok (s700.val) w701 ∧
 wrOk w701 ⟨b59, 3, none⟩ 1 ∧ ∀ w702 : World, w702 = stW w701 ⟨b59, 3, none⟩ 0 [s700.val] →
 J62  w702)
 (brB (n103 == (34 : Int))
 (∃ s703 : Sl, w639.cell? ⟨b59, 3, none⟩ = some (s703.val) ∧
 ∃ a704 : Addr, s703.ptr = some a704 ∧ 0 ≤ (wr ((s254.len : Int) - (1 : Int))) ∧ (wr ((s254.len : Int) - (1 : Int))) < (s703.len : Int) ∧
 ∃ n705 : Int, w639.cell? (Addr.add a704 (Int.toNat (wr ((s254.len : Int) - (1 : Int))) * 1)) = some (.int .i64 n705) ∧
 ∀ (b706 : Nat) (w707 : World), b706 = w639.heap.size → w707 = World.alloc w639 (.cells #[.int .i64 n705] T_int) →
 ∃ s708 : Sl, ∃ w709 : World, (Builtin.append_ #[T_sl_int, T_sl_int] T_sl_int #[s408.val, .slice (some ⟨b706, 0, none⟩) 1 1]).run Try.prog w707 = .ok (s708.val) w709 ∧
 wrOk w709 ⟨b59, 2, none⟩ 1 ∧ ∀ w710 : World, w710 = stW w709 ⟨b59, 2, none⟩ 0 [s708.val] →
 ∃ s711 : Sl, w710.cell? ⟨b59, 3, none⟩ = some (s711.val) ∧
 0 ≤ (wr ((s254.len : Int) - (1 : Int))) ∧ (wr ((s254.len : Int) - (1 : Int))) ≤ (s711.cap : Int) ∧ ∀ s712 : Sl, s712 = Sl.sub s711.ptr s711.cap 0 (Int.toNat (wr ((s254.len : Int) - (1 : Int)))) 1 →
 wrOk w710 ⟨b59, 3, none⟩ 1 ∧ ∀ w713 : World, w713 = stW w710 ⟨b59, 3, none⟩ 0 [s712.val] →
 J62  w713)
 (brB (n103 == (35 : Int))
 (∃ s714 : Sl, w639.cell? ⟨b59, 3, none⟩ = some (s714.val) ∧
 ∃ a715 : Addr, s714.ptr = some a715 ∧ 0 ≤ (wr ((s254.len : Int) - (1 : Int))) ∧ (wr ((s254.len : Int) - (1 : Int))) < (s714.len : Int) ∧
 ∃ n716 : Int, w639.cell? (Addr.add a715 (Int.toNat (wr ((s254.len : Int) - (1 : Int))) * 1)) = some (.int .i64 n716) ∧
 ∀ (b717 : Nat) (w718 : World), b717 = w639.heap.size → w718 = World.alloc w639 (.cells #[.int .i64 n716] T_int) →
 ∃ s719 : Sl, ∃ w720 : World, (Builtin.append_ #[T_sl_int, T_sl_int] T_sl_int #[s408.val, .slice (some ⟨b717, 0, none⟩) 1 1]).run Try.prog w718 = .ok (s719.val) w720 ∧
 wrOk w720 ⟨b59, 2, none⟩ 1 ∧ ∀ w721 : World, w721 = stW w720 ⟨b59, 2, none⟩ 0 [s719.val] →
 J62  w721)
 (brB (n103 == (36 : Int))
 (wrOk w639 ⟨b59, 2, none⟩ 1 ∧ ∀ w722 : World, w722 = stW w639 ⟨b59, 2, none⟩ 0 [s408.val] →
 ∃ s723 : Sl, w722.cell? ⟨b59, 3, none⟩ = some (s723.val) ∧
 ∀ (b724 : Nat) (w725 : World), b724 = w722.heap.size → w725 = World.alloc w722 (.cells #[.int .i64 q412, .int .i64 p413] T_int) →
 ∃ s726 : Sl, ∃ w727 : World, (Builtin.append_ #[T_sl_int, T_sl_int] T_sl_int #[s723.val, .slice (some ⟨b724, 0, none⟩) 2 2]).run Try.prog w725 = .ok (s726.val) w727 ∧
 wrOk w727 ⟨b59, 3, none⟩ 1 ∧ ∀ w728 : World, w728 = stW w727 ⟨b59, 3, none⟩ 0 [s726.val] →
 J62  w728)
 (∃ J105 : Bool → World → Prop, (∀ (b730 : Bool) (w729 : World), J105 b730 w729 →
 brB b730
 (wrOk w729 ⟨b59, 2, none⟩ 1 ∧ ∀ w731 : World, w731 = stW w729 ⟨b59, 2, none⟩ 0 [s408.val] →
 ∃ J109 : Int → World → Prop, (∀ (step740 : Int) (w732 : World), J109 step740 w732 →
 ∀ w733 : World, w733 = World.drew w732 →
 ∃ s734 : Sl, held (Lw w733) ⟨b59, 3, none⟩ (s734.val) ∧
 ∃ a735 : Addr, s734.ptr = some a735 ∧ 0 ≤ (wr ((s254.len : Int) - (1 : Int))) ∧ (wr ((s254.len : Int) - (1 : Int))) < (s734.len : Int) ∧
 ∃ n736 : Int, held (Lw w733) (Addr.add a735 (Int.toNat (wr ((s254.len : Int) - (1 : Int))) * 1)) (.int .i64 n736) ∧
 ∃ s737 : Sl, held (Lw w733) ⟨b59, 3, none⟩ (s737.val) ∧
 ∃ a738 : Addr, s737.ptr = some a738 ∧ 0 ≤ (wr ((s254.len : Int) - (2 : Int))) ∧ (wr ((s254.len : Int) - (2 : Int))) < (s737.len : Int) ∧
 ∃ n739 : Int, held (Lw w733) (Addr.add a738 (Int.toNat (wr ((s254.len : Int) - (2 : Int))) * 1)) (.int .i64 n739) ∧
 ∃ J113 : Bool → World → Prop, (∀ (ends745 : Bool) (w744 : World), J113 ends745 w744 →
 brB ends745
 (∃ s746 : Sl, w744.cell? ⟨b59, 3, none⟩ = some (s746.val) ∧
 0 ≤ (wr ((s254.len : Int) - (2 : Int))) ∧ (wr ((s254.len : Int) - (2 : Int))) ≤ (s746.cap : Int) ∧ ∀ s747 : Sl, s747 = Sl.sub s746.ptr s746.cap 0 (Int.toNat (wr ((s254.len : Int) - (2 : Int)))) 1 →
 wrOk w744 ⟨b59, 3, none⟩ 1 ∧ ∀ w748 : World, w748 = stW w744 ⟨b59, 3, none⟩ 0 [s747.val] →
 J62  w748)
 (∃ s749 : Sl, w744.cell? ⟨b59, 3, none⟩ = some (s749.val) ∧
 ∃ a750 : Addr, s749.ptr = some a750 ∧ 0 ≤ (wr ((s254.len : Int) - (1 : Int))) ∧ (wr ((s254.len : Int) - (1 : Int))) < (s749.len : Int) ∧
 wrOk w744 (Addr.add a750 (Int.toNat (wr ((s254.len : Int) - (1 : Int))) * 1)) 1 ∧ ∀ w751 : World, w751 = stW w744 (Addr.add a750 (Int.toNat (wr ((s254.len : Int) - (1 : Int))) * 1)) 0 [.int .i64 (wr (n736 + step740))] →
 wrOk w751 ⟨b59, 0, none⟩ 1 ∧ ∀ w752 : World, w752 = stW w751 ⟨b59, 0, none⟩ 0 [.int .i64 arg601] →
 J62  w752)) ∧
 brB (n103 == (38 : Int))
 (Calls Try.prog fn_hollowayref1_Crosses #[.int .i64 (wr (n736 - n739)), .int .i64 step740] w733 fun e741 w742 => ∃ b743 : Bool, e741 = .returned (.bool b743) ∧
 J113 b743 w742)
 (J113 ((wr (n736 + step740)) == n739) w733)) ∧
 brB (n103 == (38 : Int))
 (J109 p413 w731)
 (J109 (1 : Int) w731))
 (brB (n103 == (39 : Int))
 (∃ s753 : Sl, w729.cell? ⟨b59, 3, none⟩ = some (s753.val) ∧
 ∃ a754 : Addr, s753.ptr = some a754 ∧ 0 ≤ (wr ((s254.len : Int) - (3 : Int))) ∧ (wr ((s254.len : Int) - (3 : Int))) < (s753.len : Int) ∧
 ∃ n755 : Int, w729.cell? (Addr.add a754 (Int.toNat (wr ((s254.len : Int) - (3 : Int))) * 1)) = some (.int .i64 n755) ∧
 ∀ (b756 : Nat) (w757 : World), b756 = w729.heap.size → w757 = World.alloc w729 (.cells #[.int .i64 n755] T_int) →
 ∃ s758 : Sl, ∃ w759 : World, (Builtin.append_ #[T_sl_int, T_sl_int] T_sl_int #[s408.val, .slice (some ⟨b756, 0, none⟩) 1 1]).run Try.prog w757 = .ok (s758.val) w759 ∧
 wrOk w759 ⟨b59, 2, none⟩ 1 ∧ ∀ w760 : World, w760 = stW w759 ⟨b59, 2, none⟩ 0 [s758.val] →
 J62  w760)
 (brB (n103 == (40 : Int))
 (∃ s761 : Sl, w729.cell? ⟨b59, 3, none⟩ = some (s761.val) ∧
 0 ≤ (wr ((s254.len : Int) - (2 : Int))) ∧ (wr ((s254.len : Int) - (2 : Int))) ≤ (s761.cap : Int) ∧ ∀ s762 : Sl, s762 = Sl.sub s761.ptr s761.cap 0 (Int.toNat (wr ((s254.len : Int) - (2 : Int)))) 1 →
 wrOk w729 ⟨b59, 3, none⟩ 1 ∧ ∀ w763 : World, w763 = stW w729 ⟨b59, 3, none⟩ 0 [s762.val] →
 J62  w763)
 (∃ J119 : Bool → World → Prop, (∀ (b765 : Bool) (w764 : World), J119 b765 w764 →
 brB b765
 (∀ (b766 : Nat) (w767 : World), b766 = w764.heap.size → w767 = World.alloc w764 (.cells #[.int .u8 (IntKind.wrap .u8 (iand .i64 p413 (255 : Int)))] T_uint8) →
 ∃ t768 : ByteArray, ∃ w769 : World, (convert T_sl_uint8 T_string (.slice (some ⟨b766, 0, none⟩) 1 1)).run Try.prog w767 = .ok (.string t768) w769 ∧
 ∃ J122 : ByteArray → World → Prop, (∀ (t775 : ByteArray) (w773 : World), J122 t775 w773 →
 ∃ t774 : ByteArray, w773.cell? ⟨b59, 5, none⟩ = some (.string t774) ∧
 brB (decide ((wr ((t774.size : Int) + (t775.size : Int))) > (2000 : Int)))
 (∃ n_Ip776 : Int, ∃ n_Handler777 : Int, ∃ s_Stack778 : Sl, ∃ s_Back779 : Sl, ∃ s_Mem780 : Sl, ∃ t_Out781 : ByteArray, ∃ t_In782 : ByteArray, ∃ n_Read783 : Int, ∃ n_Status784 : Int, ∃ n_Code785 : Int, w773.cell? ⟨b11, 0, none⟩ = some (.int .i64 n_Ip776) ∧ w773.cell? ⟨b11, 1, none⟩ = some (.int .i64 n_Handler777) ∧ w773.cell? ⟨b11, 2, none⟩ = some (s_Stack778.val) ∧ w773.cell? ⟨b11, 3, none⟩ = some (s_Back779.val) ∧ w773.cell? ⟨b11, 4, none⟩ = some (s_Mem780.val) ∧ w773.cell? ⟨b11, 5, none⟩ = some (.string t_Out781) ∧ w773.cell? ⟨b11, 6, none⟩ = some (.string t_In782) ∧ w773.cell? ⟨b11, 7, none⟩ = some (.int .i64 n_Read783) ∧ w773.cell? ⟨b11, 8, none⟩ = some (.int .i64 n_Status784) ∧ w773.cell? ⟨b11, 9, none⟩ = some (.int .i64 n_Code785) ∧
 Calls Try.prog fn_hollowayref9_Fault #[.agg #[.int .i64 n_Ip776, .int .i64 n_Handler777, s_Stack778.val, s_Back779.val, s_Mem780.val, .string t_Out781, .string t_In782, .int .i64 n_Read783, .int .i64 n_Status784, .int .i64 n_Code785], .int .i64 (-57 : Int)] w773 fun e786 w787 => ∃ n_Ip788 : Int, ∃ n_Handler789 : Int, ∃ s_Stack790 : Sl, ∃ s_Back791 : Sl, ∃ s_Mem792 : Sl, ∃ t_Out793 : ByteArray, ∃ t_In794 : ByteArray, ∃ n_Read795 : Int, ∃ n_Status796 : Int, ∃ n_Code797 : Int, e786 = .returned (.agg #[.int .i64 n_Ip788, .int .i64 n_Handler789, s_Stack790.val, s_Back791.val, s_Mem792.val, .string t_Out793, .string t_In794, .int .i64 n_Read795, .int .i64 n_Status796, .int .i64 n_Code797]) ∧
 wrOk w787 ⟨b13, 0, none⟩ 10 ∧ ∀ w798 : World, w798 = stW w787 ⟨b13, 0, none⟩ 0 [.int .i64 n_Ip788, .int .i64 n_Handler789, s_Stack790.val, s_Back791.val, s_Mem792.val, .string t_Out793, .string t_In794, .int .i64 n_Read795, .int .i64 n_Status796, .int .i64 n_Code797] →
 ∃ r_Ip799 : Int, ∃ r_Handler800 : Int, ∃ r_Stack801 : Sl, ∃ r_Back802 : Sl, ∃ r_Mem803 : Sl, ∃ r_Out804 : ByteArray, ∃ r_In805 : ByteArray, ∃ r_Read806 : Int, ∃ r_Status807 : Int, ∃ r_Code808 : Int, w798.cell? ⟨b13, 0, none⟩ = some (.int .i64 r_Ip799) ∧ w798.cell? ⟨b13, 1, none⟩ = some (.int .i64 r_Handler800) ∧ w798.cell? ⟨b13, 2, none⟩ = some (r_Stack801.val) ∧ w798.cell? ⟨b13, 3, none⟩ = some (r_Back802.val) ∧ w798.cell? ⟨b13, 4, none⟩ = some (r_Mem803.val) ∧ w798.cell? ⟨b13, 5, none⟩ = some (.string r_Out804) ∧ w798.cell? ⟨b13, 6, none⟩ = some (.string r_In805) ∧ w798.cell? ⟨b13, 7, none⟩ = some (.int .i64 r_Read806) ∧ w798.cell? ⟨b13, 8, none⟩ = some (.int .i64 r_Status807) ∧ w798.cell? ⟨b13, 9, none⟩ = some (.int .i64 r_Code808) ∧
 K (.agg #[.int .i64 r_Ip799, .int .i64 r_Handler800, r_Stack801.val, r_Back802.val, r_Mem803.val, .string r_Out804, .string r_In805, .int .i64 r_Read806, .int .i64 r_Status807, .int .i64 r_Code808]) w798)
 (wrOk w773 ⟨b59, 2, none⟩ 1 ∧ ∀ w809 : World, w809 = stW w773 ⟨b59, 2, none⟩ 0 [s408.val] →
 ∃ t810 : ByteArray, w809.cell? ⟨b59, 5, none⟩ = some (.string t810) ∧
 ((t810).size : Int) + ((t775).size : Int) ≤ 9223372036854775807 ∧ wrOk w809 ⟨b59, 5, none⟩ 1 ∧ ∀ w811 : World, w811 = stW w809 ⟨b59, 5, none⟩ 0 [.string (t810 ++ t775)] →
 J62  w811)) ∧
 brB (n103 == (42 : Int))
 (Calls Try.prog fn_hollowayref1_Put #[.int .i64 p413, .int .i64 (10 : Int)] w769 fun e770 w771 => ∃ t772 : ByteArray, e770 = .returned (.string t772) ∧
 ((t772).size : Int) + (((bs [32])).size : Int) ≤ 9223372036854775807 ∧ J122 (t772 ++ (bs [32])) w771)
 (J122 t768 w769))
 (brB (n103 == (43 : Int))
 (∃ J130 : Int → World → Prop, (∀ (v819 : Int) (w818 : World), J130 v819 w818 →
 ∀ (b820 : Nat) (w821 : World), b820 = w818.heap.size → w821 = World.alloc w818 (.cells #[.int .i64 v819] T_int) →
 ∃ s822 : Sl, ∃ w823 : World, (Builtin.append_ #[T_sl_int, T_sl_int] T_sl_int #[s408.val, .slice (some ⟨b820, 0, none⟩) 1 1]).run Try.prog w821 = .ok (s822.val) w823 ∧
 wrOk w823 ⟨b59, 2, none⟩ 1 ∧ ∀ w824 : World, w824 = stW w823 ⟨b59, 2, none⟩ 0 [s822.val] →
 J62  w824) ∧
 ∃ n812 : Int, w764.cell? ⟨b59, 7, none⟩ = some (.int .i64 n812) ∧
 ∃ t813 : ByteArray, w764.cell? ⟨b59, 6, none⟩ = some (.string t813) ∧
 brB (decide (n812 < (t813.size : Int)))
 (∃ t814 : ByteArray, w764.cell? ⟨b59, 6, none⟩ = some (.string t814) ∧
 ∃ n815 : Int, w764.cell? ⟨b59, 7, none⟩ = some (.int .i64 n815) ∧
 0 ≤ n815 ∧ n815 < (t814.size : Int) ∧
 ∃ n816 : Int, w764.cell? ⟨b59, 7, none⟩ = some (.int .i64 n816) ∧
 wrOk w764 ⟨b59, 7, none⟩ 1 ∧ ∀ w817 : World, w817 = stW w764 ⟨b59, 7, none⟩ 0 [.int .i64 (wr (n816 + (1 : Int)))] →
 J130 (wr (sb t814 n815)) w817)
 (J130 (-1 : Int) w764))
 (brB (n103 == (44 : Int))
 (∃ J135 : Bool → World → Prop, (∀ (b827 : Bool) (w826 : World), J135 b827 w826 →
 brB b827
 (∃ n_Ip828 : Int, ∃ n_Handler829 : Int, ∃ s_Stack830 : Sl, ∃ s_Back831 : Sl, ∃ s_Mem832 : Sl, ∃ t_Out833 : ByteArray, ∃ t_In834 : ByteArray, ∃ n_Read835 : Int, ∃ n_Status836 : Int, ∃ n_Code837 : Int, w826.cell? ⟨b11, 0, none⟩ = some (.int .i64 n_Ip828) ∧ w826.cell? ⟨b11, 1, none⟩ = some (.int .i64 n_Handler829) ∧ w826.cell? ⟨b11, 2, none⟩ = some (s_Stack830.val) ∧ w826.cell? ⟨b11, 3, none⟩ = some (s_Back831.val) ∧ w826.cell? ⟨b11, 4, none⟩ = some (s_Mem832.val) ∧ w826.cell? ⟨b11, 5, none⟩ = some (.string t_Out833) ∧ w826.cell? ⟨b11, 6, none⟩ = some (.string t_In834) ∧ w826.cell? ⟨b11, 7, none⟩ = some (.int .i64 n_Read835) ∧ w826.cell? ⟨b11, 8, none⟩ = some (.int .i64 n_Status836) ∧ w826.cell? ⟨b11, 9, none⟩ = some (.int .i64 n_Code837) ∧
 Calls Try.prog fn_hollowayref9_Fault #[.agg #[.int .i64 n_Ip828, .int .i64 n_Handler829, s_Stack830.val, s_Back831.val, s_Mem832.val, .string t_Out833, .string t_In834, .int .i64 n_Read835, .int .i64 n_Status836, .int .i64 n_Code837], .int .i64 (-13 : Int)] w826 fun e838 w839 => ∃ n_Ip840 : Int, ∃ n_Handler841 : Int, ∃ s_Stack842 : Sl, ∃ s_Back843 : Sl, ∃ s_Mem844 : Sl, ∃ t_Out845 : ByteArray, ∃ t_In846 : ByteArray, ∃ n_Read847 : Int, ∃ n_Status848 : Int, ∃ n_Code849 : Int, e838 = .returned (.agg #[.int .i64 n_Ip840, .int .i64 n_Handler841, s_Stack842.val, s_Back843.val, s_Mem844.val, .string t_Out845, .string t_In846, .int .i64 n_Read847, .int .i64 n_Status848, .int .i64 n_Code849]) ∧
 wrOk w839 ⟨b13, 0, none⟩ 10 ∧ ∀ w850 : World, w850 = stW w839 ⟨b13, 0, none⟩ 0 [.int .i64 n_Ip840, .int .i64 n_Handler841, s_Stack842.val, s_Back843.val, s_Mem844.val, .string t_Out845, .string t_In846, .int .i64 n_Read847, .int .i64 n_Status848, .int .i64 n_Code849] →
 ∃ r_Ip851 : Int, ∃ r_Handler852 : Int, ∃ r_Stack853 : Sl, ∃ r_Back854 : Sl, ∃ r_Mem855 : Sl, ∃ r_Out856 : ByteArray, ∃ r_In857 : ByteArray, ∃ r_Read858 : Int, ∃ r_Status859 : Int, ∃ r_Code860 : Int, w850.cell? ⟨b13, 0, none⟩ = some (.int .i64 r_Ip851) ∧ w850.cell? ⟨b13, 1, none⟩ = some (.int .i64 r_Handler852) ∧ w850.cell? ⟨b13, 2, none⟩ = some (r_Stack853.val) ∧ w850.cell? ⟨b13, 3, none⟩ = some (r_Back854.val) ∧ w850.cell? ⟨b13, 4, none⟩ = some (r_Mem855.val) ∧ w850.cell? ⟨b13, 5, none⟩ = some (.string r_Out856) ∧ w850.cell? ⟨b13, 6, none⟩ = some (.string r_In857) ∧ w850.cell? ⟨b13, 7, none⟩ = some (.int .i64 r_Read858) ∧ w850.cell? ⟨b13, 8, none⟩ = some (.int .i64 r_Status859) ∧ w850.cell? ⟨b13, 9, none⟩ = some (.int .i64 r_Code860) ∧
 K (.agg #[.int .i64 r_Ip851, .int .i64 r_Handler852, r_Stack853.val, r_Back854.val, r_Mem855.val, .string r_Out856, .string r_In857, .int .i64 r_Read858, .int .i64 r_Status859, .int .i64 r_Code860]) w850)
 (wrOk w826 ⟨b59, 2, none⟩ 1 ∧ ∀ w861 : World, w861 = stW w826 ⟨b59, 2, none⟩ 0 [s408.val] →
 ∃ s862 : Sl, w861.cell? ⟨b59, 3, none⟩ = some (s862.val) ∧
 ∃ n863 : Int, w861.cell? ⟨b59, 0, none⟩ = some (.int .i64 n863) ∧
 ∀ (b864 : Nat) (w865 : World), b864 = w861.heap.size → w865 = World.alloc w861 (.cells #[.int .i64 n863] T_int) →
 ∃ s866 : Sl, ∃ w867 : World, (Builtin.append_ #[T_sl_int, T_sl_int] T_sl_int #[s862.val, .slice (some ⟨b864, 0, none⟩) 1 1]).run Try.prog w865 = .ok (s866.val) w867 ∧
 wrOk w867 ⟨b59, 3, none⟩ 1 ∧ ∀ w868 : World, w868 = stW w867 ⟨b59, 3, none⟩ 0 [s866.val] →
 wrOk w868 ⟨b59, 0, none⟩ 1 ∧ ∀ w869 : World, w869 = stW w868 ⟨b59, 0, none⟩ 0 [.int .i64 p413] →
 J62  w869)) ∧
 brB (decide (p413 < (64 : Int)))
 (J135 true w764)
 (∃ s825 : Sl, w764.cell? ⟨b59, 4, none⟩ = some (s825.val) ∧
 J135 (decide (p413 ≥ (s825.len : Int))) w764))
 (brB (n103 == (45 : Int))
 (wrOk w764 ⟨b59, 2, none⟩ 1 ∧ ∀ w870 : World, w870 = stW w764 ⟨b59, 2, none⟩ 0 [s408.val] →
 brB (p413 != (0 : Int))
 (∃ n871 : Int, w870.cell? ⟨b11, 0, none⟩ = some (.int .i64 n871) ∧
 wrOk w870 ⟨b59, 0, none⟩ 1 ∧ ∀ w872 : World, w872 = stW w870 ⟨b59, 0, none⟩ 0 [.int .i64 n871] →
 ∃ n_Ip873 : Int, ∃ n_Handler874 : Int, ∃ s_Stack875 : Sl, ∃ s_Back876 : Sl, ∃ s_Mem877 : Sl, ∃ t_Out878 : ByteArray, ∃ t_In879 : ByteArray, ∃ n_Read880 : Int, ∃ n_Status881 : Int, ∃ n_Code882 : Int, w872.cell? ⟨b59, 0, none⟩ = some (.int .i64 n_Ip873) ∧ w872.cell? ⟨b59, 1, none⟩ = some (.int .i64 n_Handler874) ∧ w872.cell? ⟨b59, 2, none⟩ = some (s_Stack875.val) ∧ w872.cell? ⟨b59, 3, none⟩ = some (s_Back876.val) ∧ w872.cell? ⟨b59, 4, none⟩ = some (s_Mem877.val) ∧ w872.cell? ⟨b59, 5, none⟩ = some (.string t_Out878) ∧ w872.cell? ⟨b59, 6, none⟩ = some (.string t_In879) ∧ w872.cell? ⟨b59, 7, none⟩ = some (.int .i64 n_Read880) ∧ w872.cell? ⟨b59, 8, none⟩ = some (.int .i64 n_Status881) ∧ w872.cell? ⟨b59, 9, none⟩ = some (.int .i64 n_Code882) ∧
 Calls Try.prog fn_hollowayref9_Fault #[.agg #[.int .i64 n_Ip873, .int .i64 n_Handler874, s_Stack875.val, s_Back876.val, s_Mem877.val, .string t_Out878, .string t_In879, .int .i64 n_Read880, .int .i64 n_Status881, .int .i64 n_Code882], .int .i64 p413] w872 fun e883 w884 => ∃ n_Ip885 : Int, ∃ n_Handler886 : Int, ∃ s_Stack887 : Sl, ∃ s_Back888 : Sl, ∃ s_Mem889 : Sl, ∃ t_Out890 : ByteArray, ∃ t_In891 : ByteArray, ∃ n_Read892 : Int, ∃ n_Status893 : Int, ∃ n_Code894 : Int, e883 = .returned (.agg #[.int .i64 n_Ip885, .int .i64 n_Handler886, s_Stack887.val, s_Back888.val, s_Mem889.val, .string t_Out890, .string t_In891, .int .i64 n_Read892, .int .i64 n_Status893, .int .i64 n_Code894]) ∧
 wrOk w884 ⟨b13, 0, none⟩ 10 ∧ ∀ w895 : World, w895 = stW w884 ⟨b13, 0, none⟩ 0 [.int .i64 n_Ip885, .int .i64 n_Handler886, s_Stack887.val, s_Back888.val, s_Mem889.val, .string t_Out890, .string t_In891, .int .i64 n_Read892, .int .i64 n_Status893, .int .i64 n_Code894] →
 ∃ r_Ip896 : Int, ∃ r_Handler897 : Int, ∃ r_Stack898 : Sl, ∃ r_Back899 : Sl, ∃ r_Mem900 : Sl, ∃ r_Out901 : ByteArray, ∃ r_In902 : ByteArray, ∃ r_Read903 : Int, ∃ r_Status904 : Int, ∃ r_Code905 : Int, w895.cell? ⟨b13, 0, none⟩ = some (.int .i64 r_Ip896) ∧ w895.cell? ⟨b13, 1, none⟩ = some (.int .i64 r_Handler897) ∧ w895.cell? ⟨b13, 2, none⟩ = some (r_Stack898.val) ∧ w895.cell? ⟨b13, 3, none⟩ = some (r_Back899.val) ∧ w895.cell? ⟨b13, 4, none⟩ = some (r_Mem900.val) ∧ w895.cell? ⟨b13, 5, none⟩ = some (.string r_Out901) ∧ w895.cell? ⟨b13, 6, none⟩ = some (.string r_In902) ∧ w895.cell? ⟨b13, 7, none⟩ = some (.int .i64 r_Read903) ∧ w895.cell? ⟨b13, 8, none⟩ = some (.int .i64 r_Status904) ∧ w895.cell? ⟨b13, 9, none⟩ = some (.int .i64 r_Code905) ∧
 K (.agg #[.int .i64 r_Ip896, .int .i64 r_Handler897, r_Stack898.val, r_Back899.val, r_Mem900.val, .string r_Out901, .string r_In902, .int .i64 r_Read903, .int .i64 r_Status904, .int .i64 r_Code905]) w895)
 (J62  w870))
 (brB (n103 == (46 : Int))
 (wrOk w764 ⟨b59, 2, none⟩ 1 ∧ ∀ w906 : World, w906 = stW w764 ⟨b59, 2, none⟩ 0 [s408.val] →
 ∃ s907 : Sl, w906.cell? ⟨b59, 3, none⟩ = some (s907.val) ∧
 ∃ n908 : Int, w906.cell? ⟨b59, 0, none⟩ = some (.int .i64 n908) ∧
 ∃ n909 : Int, w906.cell? ⟨b59, 1, none⟩ = some (.int .i64 n909) ∧
 ∀ (b910 : Nat) (w911 : World), b910 = w906.heap.size → w911 = World.alloc w906 (.cells #[.int .i64 n908, .int .i64 n909, .int .i64 (s408.len : Int)] T_int) →
 ∃ s912 : Sl, ∃ w913 : World, (Builtin.append_ #[T_sl_int, T_sl_int] T_sl_int #[s907.val, .slice (some ⟨b910, 0, none⟩) 3 3]).run Try.prog w911 = .ok (s912.val) w913 ∧
 wrOk w913 ⟨b59, 3, none⟩ 1 ∧ ∀ w914 : World, w914 = stW w913 ⟨b59, 3, none⟩ 0 [s912.val] →
 ∃ s915 : Sl, w914.cell? ⟨b59, 3, none⟩ = some (s915.val) ∧
 wrOk w914 ⟨b59, 1, none⟩ 1 ∧ ∀ w916 : World, w916 = stW w914 ⟨b59, 1, none⟩ 0 [.int .i64 (s915.len : Int)] →
 ∃ s917 : Sl, w916.cell? ⟨b59, 3, none⟩ = some (s917.val) ∧
 ∀ (b918 : Nat) (w919 : World), b918 = w916.heap.size → w919 = World.alloc w916 (.cells #[.int .i64 (1 : Int)] T_int) →
 ∃ s920 : Sl, ∃ w921 : World, (Builtin.append_ #[T_sl_int, T_sl_int] T_sl_int #[s917.val, .slice (some ⟨b918, 0, none⟩) 1 1]).run Try.prog w919 = .ok (s920.val) w921 ∧
 wrOk w921 ⟨b59, 3, none⟩ 1 ∧ ∀ w922 : World, w922 = stW w921 ⟨b59, 3, none⟩ 0 [s920.val] →
 wrOk w922 ⟨b59, 0, none⟩ 1 ∧ ∀ w923 : World, w923 = stW w922 ⟨b59, 0, none⟩ 0 [.int .i64 p413] →
 J62  w923)
 (J62  w764)))))) ∧
 brB (n103 == (41 : Int))
 (J119 (n103 == (41 : Int)) w729)
 (J119 (n103 == (42 : Int)) w729))))) ∧
 brB (n103 == (37 : Int))
 (J105 (n103 == (37 : Int)) w639)
 (J105 (n103 == (38 : Int)) w639))))))) ∧
 brB (n103 == (30 : Int))
 (J88 (n103 == (30 : Int)) w478)
 (brB (n103 == (31 : Int))
 (J88 (n103 == (31 : Int)) w478)
 (J88 (n103 == (32 : Int)) w478)))))))))))))))) ∧
 Calls Try.prog fn_hollowayref1_Arg #[.int .i64 n103] w400 fun e401 w402 => ∃ b403 : Bool, e401 = .returned (.bool b403) ∧
 brB b403
 (∃ n404 : Int, w402.cell? ⟨b59, 0, none⟩ = some (.int .i64 n404) ∧
 wrOk w402 ⟨b59, 0, none⟩ 1 ∧ ∀ w405 : World, w405 = stW w402 ⟨b59, 0, none⟩ 0 [.int .i64 (wr (n404 + (1 : Int)))] →
 J46  w405)
 (J46  w402)) ∧
 brB (decide ((s253.len : Int) > (2 : Int)))
 (∃ s395 : Sl, w394.cell? ⟨b59, 2, none⟩ = some (s395.val) ∧
 ∃ a396 : Addr, s395.ptr = some a396 ∧ 0 ≤ (wr ((s253.len : Int) - (3 : Int))) ∧ (wr ((s253.len : Int) - (3 : Int))) < (s395.len : Int) ∧
 ∃ n397 : Int, w394.cell? (Addr.add a396 (Int.toNat (wr ((s253.len : Int) - (3 : Int))) * 1)) = some (.int .i64 n397) ∧
 J43 n397 w394)
 (J43 (0 : Int) w394)) ∧
 brB (decide ((s253.len : Int) > (1 : Int)))
 (∃ s391 : Sl, w390.cell? ⟨b59, 2, none⟩ = some (s391.val) ∧
 ∃ a392 : Addr, s391.ptr = some a392 ∧ 0 ≤ (wr ((s253.len : Int) - (2 : Int))) ∧ (wr ((s253.len : Int) - (2 : Int))) < (s391.len : Int) ∧
 ∃ n393 : Int, w390.cell? (Addr.add a392 (Int.toNat (wr ((s253.len : Int) - (2 : Int))) * 1)) = some (.int .i64 n393) ∧
 J41 n393 w390)
 (J41 (0 : Int) w390)) ∧
 brB (decide ((s253.len : Int) > (0 : Int)))
 (∃ s387 : Sl, w252.cell? ⟨b59, 2, none⟩ = some (s387.val) ∧
 ∃ a388 : Addr, s387.ptr = some a388 ∧ 0 ≤ (wr ((s253.len : Int) - (1 : Int))) ∧ (wr ((s253.len : Int) - (1 : Int))) < (s387.len : Int) ∧
 ∃ n389 : Int, w252.cell? (Addr.add a388 (Int.toNat (wr ((s253.len : Int) - (1 : Int))) * 1)) = some (.int .i64 n389) ∧
 J39 n389 w252)
 (J39 (0 : Int) w252)))))) ∧
 Calls Try.prog fn_hollowayref1_Arg #[.int .i64 n103] w168 fun e203 w204 => ∃ b205 : Bool, e203 = .returned (.bool b205) ∧
 brB b205
 (∃ n206 : Int, w204.cell? ⟨b59, 0, none⟩ = some (.int .i64 n206) ∧
 ∃ s207 : Sl, w204.cell? ⟨b59, 4, none⟩ = some (s207.val) ∧
 brB (decide ((wr (n206 + (1 : Int))) ≥ (s207.len : Int)))
 (∃ n_Ip208 : Int, ∃ n_Handler209 : Int, ∃ s_Stack210 : Sl, ∃ s_Back211 : Sl, ∃ s_Mem212 : Sl, ∃ t_Out213 : ByteArray, ∃ t_In214 : ByteArray, ∃ n_Read215 : Int, ∃ n_Status216 : Int, ∃ n_Code217 : Int, w204.cell? ⟨b11, 0, none⟩ = some (.int .i64 n_Ip208) ∧ w204.cell? ⟨b11, 1, none⟩ = some (.int .i64 n_Handler209) ∧ w204.cell? ⟨b11, 2, none⟩ = some (s_Stack210.val) ∧ w204.cell? ⟨b11, 3, none⟩ = some (s_Back211.val) ∧ w204.cell? ⟨b11, 4, none⟩ = some (s_Mem212.val) ∧ w204.cell? ⟨b11, 5, none⟩ = some (.string t_Out213) ∧ w204.cell? ⟨b11, 6, none⟩ = some (.string t_In214) ∧ w204.cell? ⟨b11, 7, none⟩ = some (.int .i64 n_Read215) ∧ w204.cell? ⟨b11, 8, none⟩ = some (.int .i64 n_Status216) ∧ w204.cell? ⟨b11, 9, none⟩ = some (.int .i64 n_Code217) ∧
 Calls Try.prog fn_hollowayref9_Fault #[.agg #[.int .i64 n_Ip208, .int .i64 n_Handler209, s_Stack210.val, s_Back211.val, s_Mem212.val, .string t_Out213, .string t_In214, .int .i64 n_Read215, .int .i64 n_Status216, .int .i64 n_Code217], .int .i64 (-9 : Int)] w204 fun e218 w219 => ∃ n_Ip220 : Int, ∃ n_Handler221 : Int, ∃ s_Stack222 : Sl, ∃ s_Back223 : Sl, ∃ s_Mem224 : Sl, ∃ t_Out225 : ByteArray, ∃ t_In226 : ByteArray, ∃ n_Read227 : Int, ∃ n_Status228 : Int, ∃ n_Code229 : Int, e218 = .returned (.agg #[.int .i64 n_Ip220, .int .i64 n_Handler221, s_Stack222.val, s_Back223.val, s_Mem224.val, .string t_Out225, .string t_In226, .int .i64 n_Read227, .int .i64 n_Status228, .int .i64 n_Code229]) ∧
 wrOk w219 ⟨b13, 0, none⟩ 10 ∧ ∀ w230 : World, w230 = stW w219 ⟨b13, 0, none⟩ 0 [.int .i64 n_Ip220, .int .i64 n_Handler221, s_Stack222.val, s_Back223.val, s_Mem224.val, .string t_Out225, .string t_In226, .int .i64 n_Read227, .int .i64 n_Status228, .int .i64 n_Code229] →
 ∃ r_Ip231 : Int, ∃ r_Handler232 : Int, ∃ r_Stack233 : Sl, ∃ r_Back234 : Sl, ∃ r_Mem235 : Sl, ∃ r_Out236 : ByteArray, ∃ r_In237 : ByteArray, ∃ r_Read238 : Int, ∃ r_Status239 : Int, ∃ r_Code240 : Int, w230.cell? ⟨b13, 0, none⟩ = some (.int .i64 r_Ip231) ∧ w230.cell? ⟨b13, 1, none⟩ = some (.int .i64 r_Handler232) ∧ w230.cell? ⟨b13, 2, none⟩ = some (r_Stack233.val) ∧ w230.cell? ⟨b13, 3, none⟩ = some (r_Back234.val) ∧ w230.cell? ⟨b13, 4, none⟩ = some (r_Mem235.val) ∧ w230.cell? ⟨b13, 5, none⟩ = some (.string r_Out236) ∧ w230.cell? ⟨b13, 6, none⟩ = some (.string r_In237) ∧ w230.cell? ⟨b13, 7, none⟩ = some (.int .i64 r_Read238) ∧ w230.cell? ⟨b13, 8, none⟩ = some (.int .i64 r_Status239) ∧ w230.cell? ⟨b13, 9, none⟩ = some (.int .i64 r_Code240) ∧
 K (.agg #[.int .i64 r_Ip231, .int .i64 r_Handler232, r_Stack233.val, r_Back234.val, r_Mem235.val, .string r_Out236, .string r_In237, .int .i64 r_Read238, .int .i64 r_Status239, .int .i64 r_Code240]) w230)
 (∃ s241 : Sl, w204.cell? ⟨b59, 4, none⟩ = some (s241.val) ∧
 ∃ n242 : Int, w204.cell? ⟨b59, 0, none⟩ = some (.int .i64 n242) ∧
 ∃ a243 : Addr, s241.ptr = some a243 ∧ 0 ≤ (wr (n242 + (1 : Int))) ∧ (wr (n242 + (1 : Int))) < (s241.len : Int) ∧
 ∃ n244 : Int, w204.cell? (Addr.add a243 (Int.toNat (wr (n242 + (1 : Int))) * 1)) = some (.int .i64 n244) ∧
 J22 n244 w204))
 (J22 (0 : Int) w204))))) ∧
 ∃ n62 : Int, w61.cell? ⟨b59, 0, none⟩ = some (.int .i64 n62) ∧
 brB (decide (n62 < (0 : Int)))
 (J7 true w61)
 (∃ n63 : Int, w61.cell? ⟨b59, 0, none⟩ = some (.int .i64 n63) ∧
 ∃ s64 : Sl, w61.cell? ⟨b59, 4, none⟩ = some (s64.val) ∧
 J7 (decide (n63 ≥ (s64.len : Int))) w61))
def hollowayref9_Step_an : An := ⟨[], [(21, (8, .st 0 (.st 1 (.st 2 (.st 3 (.st 4 (.st 5 (.st 6 (.st 7 .done))))))), 0)), (61, (14, .st 0 (.st 1 (.st 2 (.st 3 (.st 4 (.st 5 (.st 6 (.st 7 (.st 8 (.st 9 (.st 10 (.st 11 (.st 12 (.ef 13 .done))))))))))))), 1)), (92, (11, .st 0 (.st 1 (.st 2 (.st 3 (.st 4 (.st 5 (.st 6 (.st 7 (.st 8 (.st 9 (.st 10 .done)))))))))), 0)), (114, (14, .st 0 (.st 1 (.st 2 (.st 3 (.st 4 (.st 5 (.st 6 (.st 7 (.st 8 (.st 9 (.st 10 (.st 11 (.st 12 (.st 13 .done))))))))))))), 0))], [(5, [(43, .bool)]), (58, [(228, .bool)]), (89, [(344, .bool)]), (118, [(24, .bool)]), (114, [(21, .int .i64)]), (131, [(25, .str)]), (140, [(26, .int .i64)]), (143, [(561, .bool)]), (128, [(499, .bool)]), (110, [(430, .bool)]), (88, [(332, .bool)]), (158, []), (40, []), (37, [(14, .int .i64)]), (35, [(13, .int .i64)]), (33, [(12, .int .i64)]), (20, [(5, .int .i64)])]⟩
theorem hollowayref9_Step_lift {was_Ip1 : Int} {was_Handler2 : Int} {was_Stack3 : Sl} {was_Back4 : Sl} {was_Mem5 : Sl} {was_Out6 : ByteArray} {was_In7 : ByteArray} {was_Read8 : Int} {was_Status9 : Int} {was_Code10 : Int} {w : World} {K : Value → World → Prop} (h : hollowayref9_Step_sh was_Ip1 was_Handler2 was_Stack3 was_Back4 was_Mem5 was_Out6 was_In7 was_Read8 was_Status9 was_Code10 w K) : Calls Try.prog fn_hollowayref9_Step #[.agg #[.int .i64 was_Ip1, .int .i64 was_Handler2, was_Stack3.val, was_Back4.val, was_Mem5.val, .string was_Out6, .string was_In7, .int .i64 was_Read8, .int .i64 was_Status9, .int .i64 was_Code10]] w fun e w' => ∃ v, e = .returned v ∧ K v w' :=
   lift_calls (A := hollowayref9_Step_an) (c := bodyOf Try.f13) (args := [.agg #[.int .i64 was_Ip1, .int .i64 was_Handler2, was_Stack3.val, was_Back4.val, was_Mem5.val, .string was_Out6, .string was_In7, .int .i64 was_Read8, .int .i64 was_Status9, .int .i64 was_Code10]]) orc orc_wide Try.func13 (by kernel_rfl) (by kernel_rfl) (Eq.mp (by kernel_rfl : hollowayref9_Step_sh was_Ip1 was_Handler2 was_Stack3 was_Back4 was_Mem5 was_Out6 was_In7 was_Read8 was_Status9 was_Code10 w K = wpc orc Try.f13.ntmps hollowayref9_Step_an (bodyOf Try.f13) (argl 0 [.agg #[.int .i64 was_Ip1, .int .i64 was_Handler2, was_Stack3.val, was_Back4.val, was_Mem5.val, .string was_Out6, .string was_In7, .int .i64 was_Read8, .int .i64 was_Status9, .int .i64 was_Code10]]) w (retQ orc Try.f13.results.toList K)) h)

-- holloway/hollowayref9.faults
def hollowayref9_faults_sh (s__Ip1 : Int) (s__Handler2 : Int) (s__Stack3 : Sl) (s__Back4 : Sl) (s__Mem5 : Sl) (s__Out6 : ByteArray) (s__In7 : ByteArray) (s__Read8 : Int) (s__Status9 : Int) (s__Code10 : Int) (w : World) (K : Value → World → Prop) : Prop :=
 ∀ (b11 : Nat) (w12 : World), b11 = w.heap.size → w12 = World.alloc w (.cells #[.int .i64 s__Ip1, .int .i64 s__Handler2, s__Stack3.val, s__Back4.val, s__Mem5.val, .string s__Out6, .string s__In7, .int .i64 s__Read8, .int .i64 s__Status9, .int .i64 s__Code10] T_api_State) →
 wrOk w12 ⟨b11, 1, none⟩ 1 ∧ ∀ w13 : World, w13 = stW w12 ⟨b11, 1, none⟩ 0 [.int .i64 (0 : Int)] →
 ∃ n_Ip14 : Int, ∃ n_Handler15 : Int, ∃ s_Stack16 : Sl, ∃ s_Back17 : Sl, ∃ s_Mem18 : Sl, ∃ t_Out19 : ByteArray, ∃ t_In20 : ByteArray, ∃ n_Read21 : Int, ∃ n_Status22 : Int, ∃ n_Code23 : Int, w13.cell? ⟨b11, 0, none⟩ = some (.int .i64 n_Ip14) ∧ w13.cell? ⟨b11, 1, none⟩ = some (.int .i64 n_Handler15) ∧ w13.cell? ⟨b11, 2, none⟩ = some (s_Stack16.val) ∧ w13.cell? ⟨b11, 3, none⟩ = some (s_Back17.val) ∧ w13.cell? ⟨b11, 4, none⟩ = some (s_Mem18.val) ∧ w13.cell? ⟨b11, 5, none⟩ = some (.string t_Out19) ∧ w13.cell? ⟨b11, 6, none⟩ = some (.string t_In20) ∧ w13.cell? ⟨b11, 7, none⟩ = some (.int .i64 n_Read21) ∧ w13.cell? ⟨b11, 8, none⟩ = some (.int .i64 n_Status22) ∧ w13.cell? ⟨b11, 9, none⟩ = some (.int .i64 n_Code23) ∧
 Calls Try.prog fn_hollowayref9_Step #[.agg #[.int .i64 n_Ip14, .int .i64 n_Handler15, s_Stack16.val, s_Back17.val, s_Mem18.val, .string t_Out19, .string t_In20, .int .i64 n_Read21, .int .i64 n_Status22, .int .i64 n_Code23]] w13 fun e24 w25 => ∃ n_Ip26 : Int, ∃ n_Handler27 : Int, ∃ s_Stack28 : Sl, ∃ s_Back29 : Sl, ∃ s_Mem30 : Sl, ∃ t_Out31 : ByteArray, ∃ t_In32 : ByteArray, ∃ n_Read33 : Int, ∃ n_Status34 : Int, ∃ n_Code35 : Int, e24 = .returned (.agg #[.int .i64 n_Ip26, .int .i64 n_Handler27, s_Stack28.val, s_Back29.val, s_Mem30.val, .string t_Out31, .string t_In32, .int .i64 n_Read33, .int .i64 n_Status34, .int .i64 n_Code35]) ∧
 K (.bool (n_Status34 == (2 : Int))) w25
def hollowayref9_faults_an : An := ⟨[], [], []⟩
theorem hollowayref9_faults_lift {s__Ip1 : Int} {s__Handler2 : Int} {s__Stack3 : Sl} {s__Back4 : Sl} {s__Mem5 : Sl} {s__Out6 : ByteArray} {s__In7 : ByteArray} {s__Read8 : Int} {s__Status9 : Int} {s__Code10 : Int} {w : World} {K : Value → World → Prop} (h : hollowayref9_faults_sh s__Ip1 s__Handler2 s__Stack3 s__Back4 s__Mem5 s__Out6 s__In7 s__Read8 s__Status9 s__Code10 w K) : Calls Try.prog fn_hollowayref9_faults #[.agg #[.int .i64 s__Ip1, .int .i64 s__Handler2, s__Stack3.val, s__Back4.val, s__Mem5.val, .string s__Out6, .string s__In7, .int .i64 s__Read8, .int .i64 s__Status9, .int .i64 s__Code10]] w fun e w' => ∃ v, e = .returned v ∧ K v w' :=
   lift_calls (A := hollowayref9_faults_an) (c := bodyOf Try.f14) (args := [.agg #[.int .i64 s__Ip1, .int .i64 s__Handler2, s__Stack3.val, s__Back4.val, s__Mem5.val, .string s__Out6, .string s__In7, .int .i64 s__Read8, .int .i64 s__Status9, .int .i64 s__Code10]]) orc orc_wide Try.func14 (by kernel_rfl) (by kernel_rfl) (Eq.mp (by kernel_rfl : hollowayref9_faults_sh s__Ip1 s__Handler2 s__Stack3 s__Back4 s__Mem5 s__Out6 s__In7 s__Read8 s__Status9 s__Code10 w K = wpc orc Try.f14.ntmps hollowayref9_faults_an (bodyOf Try.f14) (argl 0 [.agg #[.int .i64 s__Ip1, .int .i64 s__Handler2, s__Stack3.val, s__Back4.val, s__Mem5.val, .string s__Out6, .string s__In7, .int .i64 s__Read8, .int .i64 s__Status9, .int .i64 s__Code10]]) w (retQ orc Try.f14.results.toList K)) h)

-- holloway/hollowayref9.Needs
def hollowayref9_Needs_sh (r__Start1 : Int) (r__End2 : Int) (r__Loop3 : Bool) (r__Steps4 : Sl) (w : World) (K : Value → World → Prop) : Prop :=
 ∀ (b5 : Nat) (w6 : World), b5 = w.heap.size → w6 = World.alloc w (.cells #[.int .i64 r__Start1, .int .i64 r__End2, .bool r__Loop3, r__Steps4.val] T_api_Recording) →
 ∃ (I1 : Int → Int → Int → Int → Int → Int → Int → World → Prop) (μ1 : Int → Int → Int → Int → Int → Int → Int → World → Nat), I1 (0 : Int) (0 : Int) (0 : Int) (0 : Int) (0 : Int) (0 : Int) (0 : Int) w6 ∧ ∀ (slots28 : Int) (backs31 : Int) (grow45 : Int) (growBack46 : Int) (now30 : Int) (back33 : Int) (i8 : Int) (w7 : World), I1 slots28 backs31 grow45 growBack46 now30 back33 i8 w7 →
 ∃ s9 : Sl, w7.cell? ⟨b5, 3, none⟩ = some (s9.val) ∧
 brB (decide (i8 < (s9.len : Int)))
 (∃ s10 : Sl, w7.cell? ⟨b5, 3, none⟩ = some (s10.val) ∧
 ∃ a11 : Addr, s10.ptr = some a11 ∧ 0 ≤ i8 ∧ i8 < (s10.len : Int) ∧
 ∃ n_Ip12 : Int, ∃ n_Cell13 : Int, ∃ n_Arg14 : Int, ∃ n_Next15 : Int, w7.cell? (Addr.add a11 (Int.toNat i8 * 4)) = some (.int .i64 n_Ip12) ∧ w7.cell? (Addr.add (Addr.add a11 (Int.toNat i8 * 4)) 1) = some (.int .i64 n_Cell13) ∧ w7.cell? (Addr.add (Addr.add a11 (Int.toNat i8 * 4)) 2) = some (.int .i64 n_Arg14) ∧ w7.cell? (Addr.add (Addr.add a11 (Int.toNat i8 * 4)) 3) = some (.int .i64 n_Next15) ∧
 ∀ (b16 : Nat) (w17 : World), b16 = w7.heap.size → w17 = World.alloc w7 (.cells #[.int .i64 (0 : Int), .int .i64 (0 : Int), .int .i64 (0 : Int), .int .i64 (0 : Int)] T_api_Seen) →
 wrOk w17 ⟨b16, 0, none⟩ 4 ∧ ∀ w18 : World, w18 = stW w17 ⟨b16, 0, none⟩ 0 [.int .i64 n_Ip12, .int .i64 n_Cell13, .int .i64 n_Arg14, .int .i64 n_Next15] →
 ∃ n19 : Int, w18.cell? ⟨b16, 1, none⟩ = some (.int .i64 n19) ∧
 Calls Try.prog fn_hollowayref1_Moves #[.int .i64 n19] w18 fun e20 w21 => ∃ n22 : Int, ∃ n23 : Int, ∃ n24 : Int, ∃ n25 : Int, e20 = .returned (.tuple #[.int .i64 n22, .int .i64 n23, .int .i64 n24, .int .i64 n25]) ∧
 ∃ J11 : Int → Int → Int → Int → World → Prop, (∀ (a29 : Int) (b32 : Int) (c43 : Int) (d47 : Int) (w27 : World), J11 a29 b32 c43 d47 w27 →
 ∃ J14 : Int → World → Prop, (∀ (d44 : Int) (w42 : World), J14 d44 w42 →
 I1 (imax slots28 (wr (a29 - now30))) (imax backs31 (wr (b32 - back33))) (imax grow45 (wr ((wr (now30 - a29)) + c43))) (imax growBack46 (wr ((wr (back33 - b32)) + d44))) (wr ((wr (now30 - a29)) + c43)) (wr ((wr (back33 - b32)) + d44)) (wr (i8 + (1 : Int))) w42 ∧ μ1 (imax slots28 (wr (a29 - now30))) (imax backs31 (wr (b32 - back33))) (imax grow45 (wr ((wr (now30 - a29)) + c43))) (imax growBack46 (wr ((wr (back33 - b32)) + d44))) (wr ((wr (now30 - a29)) + c43)) (wr ((wr (back33 - b32)) + d44)) (wr (i8 + (1 : Int))) w42 < μ1 slots28 backs31 grow45 growBack46 now30 back33 i8 w7) ∧
 ∃ J15 : Bool → World → Prop, (∀ (b41 : Bool) (w40 : World), J15 b41 w40 →
 brB b41
 (J14 (0 : Int) w40)
 (J14 d47 w40)) ∧
 ∃ n34 : Int, w27.cell? ⟨b16, 1, none⟩ = some (.int .i64 n34) ∧
 brB (n34 == (37 : Int))
 (∃ n35 : Int, w27.cell? ⟨b16, 3, none⟩ = some (.int .i64 n35) ∧
 ∃ n36 : Int, w27.cell? ⟨b16, 2, none⟩ = some (.int .i64 n36) ∧
 J15 (n35 != n36) w27)
 (∃ n37 : Int, w27.cell? ⟨b16, 1, none⟩ = some (.int .i64 n37) ∧
 brB (n37 == (38 : Int))
 (∃ n38 : Int, w27.cell? ⟨b16, 3, none⟩ = some (.int .i64 n38) ∧
 ∃ n39 : Int, w27.cell? ⟨b16, 2, none⟩ = some (.int .i64 n39) ∧
 J15 (n38 != n39) w27)
 (J15 false w27))) ∧
 ∃ n26 : Int, w21.cell? ⟨b16, 1, none⟩ = some (.int .i64 n26) ∧
 brB (decide (n26 ≥ (64 : Int)))
 (J11 (0 : Int) (0 : Int) (0 : Int) (1 : Int) w21)
 (J11 n22 n23 n24 n25 w21))
 (K (.tuple #[.int .i64 slots28, .int .i64 grow45, .int .i64 backs31, .int .i64 growBack46]) w7)
def hollowayref9_Needs_an : An := ⟨[(4, [(6, .int .i64), (7, .int .i64), (8, .int .i64), (9, .int .i64), (10, .int .i64), (11, .int .i64), (12, .int .i64)])], [], [(12, [(65, .bool)]), (13, [(17, .int .i64)]), (10, [(14, .int .i64), (15, .int .i64), (16, .int .i64), (17, .int .i64)])]⟩
theorem hollowayref9_Needs_lift {r__Start1 : Int} {r__End2 : Int} {r__Loop3 : Bool} {r__Steps4 : Sl} {w : World} {K : Value → World → Prop} (h : hollowayref9_Needs_sh r__Start1 r__End2 r__Loop3 r__Steps4 w K) : Calls Try.prog fn_hollowayref9_Needs #[.agg #[.int .i64 r__Start1, .int .i64 r__End2, .bool r__Loop3, r__Steps4.val]] w fun e w' => ∃ v, e = .returned v ∧ K v w' :=
   lift_calls (A := hollowayref9_Needs_an) (c := bodyOf Try.f29) (args := [.agg #[.int .i64 r__Start1, .int .i64 r__End2, .bool r__Loop3, r__Steps4.val]]) orc orc_wide Try.func29 (by kernel_rfl) (by kernel_rfl) (Eq.mp (by kernel_rfl : hollowayref9_Needs_sh r__Start1 r__End2 r__Loop3 r__Steps4 w K = wpc orc Try.f29.ntmps hollowayref9_Needs_an (bodyOf Try.f29) (argl 0 [.agg #[.int .i64 r__Start1, .int .i64 r__End2, .bool r__Loop3, r__Steps4.val]]) w (retQ orc Try.f29.results.toList K)) h)

-- holloway/hollowayref9.Cells
def hollowayref9_Cells_sh (r__Start1 : Int) (r__End2 : Int) (r__Loop3 : Bool) (r__Steps4 : Sl) (w : World) (K : Value → World → Prop) : Prop :=
 ∀ (b5 : Nat) (w6 : World), b5 = w.heap.size → w6 = World.alloc w (.cells #[.int .i64 r__Start1, .int .i64 r__End2, .bool r__Loop3, r__Steps4.val] T_api_Recording) →
 ∃ s7 : Sl, ∃ w8 : World, (Instr.makeSlice T_sl_bool (.int .i64 (3001 : Int)) (.int .i64 (3001 : Int))).run Try.prog w6 = .ok s7.val w8 ∧
 ∃ (I1 : Int → World → Prop) (μ1 : Int → World → Nat), I1 (0 : Int) w8 ∧ ∀ (i10 : Int) (w9 : World), I1 i10 w9 →
 ∃ s11 : Sl, w9.cell? ⟨b5, 3, none⟩ = some (s11.val) ∧
 brB (decide (i10 < (s11.len : Int)))
 (∃ J7 : World → Prop, (∀ (w28 : World), J7  w28 →
 I1 (wr (i10 + (1 : Int))) w28 ∧ μ1 (wr (i10 + (1 : Int))) w28 < μ1 i10 w9) ∧
 ∃ s12 : Sl, w9.cell? ⟨b5, 3, none⟩ = some (s12.val) ∧
 ∃ a13 : Addr, s12.ptr = some a13 ∧ 0 ≤ i10 ∧ i10 < (s12.len : Int) ∧
 ∃ n14 : Int, w9.cell? (Addr.add a13 (Int.toNat i10 * 4)) = some (.int .i64 n14) ∧
 ∃ a15 : Addr, s7.ptr = some a15 ∧ 0 ≤ n14 ∧ n14 < (s7.len : Int) ∧
 wrOk w9 (Addr.add a15 (Int.toNat n14 * 1)) 1 ∧ ∀ w16 : World, w16 = stW w9 (Addr.add a15 (Int.toNat n14 * 1)) 0 [.bool true] →
 ∃ s17 : Sl, w16.cell? ⟨b5, 3, none⟩ = some (s17.val) ∧
 ∃ a18 : Addr, s17.ptr = some a18 ∧ 0 ≤ i10 ∧ i10 < (s17.len : Int) ∧
 ∃ n19 : Int, w16.cell? (Addr.add (Addr.add a18 (Int.toNat i10 * 4)) 1) = some (.int .i64 n19) ∧
 Calls Try.prog fn_hollowayref1_Arg #[.int .i64 n19] w16 fun e20 w21 => ∃ b22 : Bool, e20 = .returned (.bool b22) ∧
 brB b22
 (∃ s23 : Sl, w21.cell? ⟨b5, 3, none⟩ = some (s23.val) ∧
 ∃ a24 : Addr, s23.ptr = some a24 ∧ 0 ≤ i10 ∧ i10 < (s23.len : Int) ∧
 ∃ n25 : Int, w21.cell? (Addr.add a24 (Int.toNat i10 * 4)) = some (.int .i64 n25) ∧
 ∃ a26 : Addr, s7.ptr = some a26 ∧ 0 ≤ (wr (n25 + (1 : Int))) ∧ (wr (n25 + (1 : Int))) < (s7.len : Int) ∧
 wrOk w21 (Addr.add a26 (Int.toNat (wr (n25 + (1 : Int))) * 1)) 1 ∧ ∀ w27 : World, w27 = stW w21 (Addr.add a26 (Int.toNat (wr (n25 + (1 : Int))) * 1)) 0 [.bool true] →
 J7  w27)
 (J7  w21))
 (∃ (I2 : Sl → Int → World → Prop) (μ2 : Sl → Int → World → Nat), I2 (⟨none, 0, 0⟩ : Sl) (0 : Int) w9 ∧ ∀ (out33 : Sl) (k30 : Int) (w29 : World), I2 out33 k30 w29 →
 brB (decide (k30 < (s7.len : Int)))
 (∃ J15 : Sl → World → Prop, (∀ (out39 : Sl) (w38 : World), J15 out39 w38 →
 I2 out39 (wr (k30 + (1 : Int))) w38 ∧ μ2 out39 (wr (k30 + (1 : Int))) w38 < μ2 out33 k30 w29) ∧
 ∃ a31 : Addr, s7.ptr = some a31 ∧ 0 ≤ k30 ∧ k30 < (s7.len : Int) ∧
 ∃ b32 : Bool, w29.cell? (Addr.add a31 (Int.toNat k30 * 1)) = some (.bool b32) ∧
 brB b32
 (∀ (b34 : Nat) (w35 : World), b34 = w29.heap.size → w35 = World.alloc w29 (.cells #[.int .i64 k30] T_int) →
 ∃ s36 : Sl, ∃ w37 : World, (Builtin.append_ #[T_sl_int, T_sl_int] T_sl_int #[out33.val, .slice (some ⟨b34, 0, none⟩) 1 1]).run Try.prog w35 = .ok (s36.val) w37 ∧
 J15 s36 w37)
 (J15 out33 w29))
 (K (out33.val) w29))
def hollowayref9_Cells_an : An := ⟨[(3, [(4, .int .i64)]), (10, [(5, .sl), (6, .int .i64)])], [], [(4, []), (11, [(5, .sl)])]⟩
theorem hollowayref9_Cells_lift {r__Start1 : Int} {r__End2 : Int} {r__Loop3 : Bool} {r__Steps4 : Sl} {w : World} {K : Value → World → Prop} (h : hollowayref9_Cells_sh r__Start1 r__End2 r__Loop3 r__Steps4 w K) : Calls Try.prog fn_hollowayref9_Cells #[.agg #[.int .i64 r__Start1, .int .i64 r__End2, .bool r__Loop3, r__Steps4.val]] w fun e w' => ∃ v, e = .returned v ∧ K v w' :=
   lift_calls (A := hollowayref9_Cells_an) (c := bodyOf Try.f31) (args := [.agg #[.int .i64 r__Start1, .int .i64 r__End2, .bool r__Loop3, r__Steps4.val]]) orc orc_wide Try.func31 (by kernel_rfl) (by kernel_rfl) (Eq.mp (by kernel_rfl : hollowayref9_Cells_sh r__Start1 r__End2 r__Loop3 r__Steps4 w K = wpc orc Try.f31.ntmps hollowayref9_Cells_an (bodyOf Try.f31) (argl 0 [.agg #[.int .i64 r__Start1, .int .i64 r__End2, .bool r__Loop3, r__Steps4.val]]) w (retQ orc Try.f31.results.toList K)) h)

-- holloway/hollowayref9.Copy
def hollowayref9_Copy_sh (s__Ip1 : Int) (s__Handler2 : Int) (s__Stack3 : Sl) (s__Back4 : Sl) (s__Mem5 : Sl) (s__Out6 : ByteArray) (s__In7 : ByteArray) (s__Read8 : Int) (s__Status9 : Int) (s__Code10 : Int) (w : World) (K : Value → World → Prop) : Prop :=
 ∀ (b11 : Nat) (w12 : World), b11 = w.heap.size → w12 = World.alloc w (.cells #[.int .i64 s__Ip1, .int .i64 s__Handler2, s__Stack3.val, s__Back4.val, s__Mem5.val, .string s__Out6, .string s__In7, .int .i64 s__Read8, .int .i64 s__Status9, .int .i64 s__Code10] T_api_State) →
 ∀ (b13 : Nat) (w14 : World), b13 = w12.heap.size → w14 = World.alloc w12 (.cells #[.int .i64 (0 : Int), .int .i64 (0 : Int), .slice none 0 0, .slice none 0 0, .slice none 0 0, .string (bs []), .string (bs []), .int .i64 (0 : Int), .int .i64 (0 : Int), .int .i64 (0 : Int)] T_api_State) →
 ∃ s15 : Sl, w14.cell? ⟨b11, 2, none⟩ = some (s15.val) ∧
 ∃ s16 : Sl, ∃ w17 : World, (Builtin.append_ #[T_sl_int, T_sl_int] T_sl_int #[.slice none 0 0, s15.val]).run Try.prog w14 = .ok (s16.val) w17 ∧
 wrOk w17 ⟨b11, 2, none⟩ 1 ∧ ∀ w18 : World, w18 = stW w17 ⟨b11, 2, none⟩ 0 [s16.val] →
 ∃ s19 : Sl, w18.cell? ⟨b11, 3, none⟩ = some (s19.val) ∧
 ∃ s20 : Sl, ∃ w21 : World, (Builtin.append_ #[T_sl_int, T_sl_int] T_sl_int #[.slice none 0 0, s19.val]).run Try.prog w18 = .ok (s20.val) w21 ∧
 wrOk w21 ⟨b11, 3, none⟩ 1 ∧ ∀ w22 : World, w22 = stW w21 ⟨b11, 3, none⟩ 0 [s20.val] →
 ∃ s23 : Sl, w22.cell? ⟨b11, 4, none⟩ = some (s23.val) ∧
 ∃ s24 : Sl, ∃ w25 : World, (Builtin.append_ #[T_sl_int, T_sl_int] T_sl_int #[.slice none 0 0, s23.val]).run Try.prog w22 = .ok (s24.val) w25 ∧
 wrOk w25 ⟨b11, 4, none⟩ 1 ∧ ∀ w26 : World, w26 = stW w25 ⟨b11, 4, none⟩ 0 [s24.val] →
 ∃ n_Ip27 : Int, ∃ n_Handler28 : Int, ∃ s_Stack29 : Sl, ∃ s_Back30 : Sl, ∃ s_Mem31 : Sl, ∃ t_Out32 : ByteArray, ∃ t_In33 : ByteArray, ∃ n_Read34 : Int, ∃ n_Status35 : Int, ∃ n_Code36 : Int, w26.cell? ⟨b11, 0, none⟩ = some (.int .i64 n_Ip27) ∧ w26.cell? ⟨b11, 1, none⟩ = some (.int .i64 n_Handler28) ∧ w26.cell? ⟨b11, 2, none⟩ = some (s_Stack29.val) ∧ w26.cell? ⟨b11, 3, none⟩ = some (s_Back30.val) ∧ w26.cell? ⟨b11, 4, none⟩ = some (s_Mem31.val) ∧ w26.cell? ⟨b11, 5, none⟩ = some (.string t_Out32) ∧ w26.cell? ⟨b11, 6, none⟩ = some (.string t_In33) ∧ w26.cell? ⟨b11, 7, none⟩ = some (.int .i64 n_Read34) ∧ w26.cell? ⟨b11, 8, none⟩ = some (.int .i64 n_Status35) ∧ w26.cell? ⟨b11, 9, none⟩ = some (.int .i64 n_Code36) ∧
 wrOk w26 ⟨b13, 0, none⟩ 10 ∧ ∀ w37 : World, w37 = stW w26 ⟨b13, 0, none⟩ 0 [.int .i64 n_Ip27, .int .i64 n_Handler28, s_Stack29.val, s_Back30.val, s_Mem31.val, .string t_Out32, .string t_In33, .int .i64 n_Read34, .int .i64 n_Status35, .int .i64 n_Code36] →
 ∃ r_Ip38 : Int, ∃ r_Handler39 : Int, ∃ r_Stack40 : Sl, ∃ r_Back41 : Sl, ∃ r_Mem42 : Sl, ∃ r_Out43 : ByteArray, ∃ r_In44 : ByteArray, ∃ r_Read45 : Int, ∃ r_Status46 : Int, ∃ r_Code47 : Int, w37.cell? ⟨b13, 0, none⟩ = some (.int .i64 r_Ip38) ∧ w37.cell? ⟨b13, 1, none⟩ = some (.int .i64 r_Handler39) ∧ w37.cell? ⟨b13, 2, none⟩ = some (r_Stack40.val) ∧ w37.cell? ⟨b13, 3, none⟩ = some (r_Back41.val) ∧ w37.cell? ⟨b13, 4, none⟩ = some (r_Mem42.val) ∧ w37.cell? ⟨b13, 5, none⟩ = some (.string r_Out43) ∧ w37.cell? ⟨b13, 6, none⟩ = some (.string r_In44) ∧ w37.cell? ⟨b13, 7, none⟩ = some (.int .i64 r_Read45) ∧ w37.cell? ⟨b13, 8, none⟩ = some (.int .i64 r_Status46) ∧ w37.cell? ⟨b13, 9, none⟩ = some (.int .i64 r_Code47) ∧
 K (.agg #[.int .i64 r_Ip38, .int .i64 r_Handler39, r_Stack40.val, r_Back41.val, r_Mem42.val, .string r_Out43, .string r_In44, .int .i64 r_Read45, .int .i64 r_Status46, .int .i64 r_Code47]) w37
def hollowayref9_Copy_an : An := ⟨[], [], []⟩
theorem hollowayref9_Copy_lift {s__Ip1 : Int} {s__Handler2 : Int} {s__Stack3 : Sl} {s__Back4 : Sl} {s__Mem5 : Sl} {s__Out6 : ByteArray} {s__In7 : ByteArray} {s__Read8 : Int} {s__Status9 : Int} {s__Code10 : Int} {w : World} {K : Value → World → Prop} (h : hollowayref9_Copy_sh s__Ip1 s__Handler2 s__Stack3 s__Back4 s__Mem5 s__Out6 s__In7 s__Read8 s__Status9 s__Code10 w K) : Calls Try.prog fn_hollowayref9_Copy #[.agg #[.int .i64 s__Ip1, .int .i64 s__Handler2, s__Stack3.val, s__Back4.val, s__Mem5.val, .string s__Out6, .string s__In7, .int .i64 s__Read8, .int .i64 s__Status9, .int .i64 s__Code10]] w fun e w' => ∃ v, e = .returned v ∧ K v w' :=
   lift_calls (A := hollowayref9_Copy_an) (c := bodyOf Try.f40) (args := [.agg #[.int .i64 s__Ip1, .int .i64 s__Handler2, s__Stack3.val, s__Back4.val, s__Mem5.val, .string s__Out6, .string s__In7, .int .i64 s__Read8, .int .i64 s__Status9, .int .i64 s__Code10]]) orc orc_wide Try.func40 (by kernel_rfl) (by kernel_rfl) (Eq.mp (by kernel_rfl : hollowayref9_Copy_sh s__Ip1 s__Handler2 s__Stack3 s__Back4 s__Mem5 s__Out6 s__In7 s__Read8 s__Status9 s__Code10 w K = wpc orc Try.f40.ntmps hollowayref9_Copy_an (bodyOf Try.f40) (argl 0 [.agg #[.int .i64 s__Ip1, .int .i64 s__Handler2, s__Stack3.val, s__Back4.val, s__Mem5.val, .string s__Out6, .string s__In7, .int .i64 s__Read8, .int .i64 s__Status9, .int .i64 s__Code10]]) w (retQ orc Try.f40.results.toList K)) h)

-- holloway/hollowayref9.Fault
def hollowayref9_Fault_sh (s__Ip1 : Int) (s__Handler2 : Int) (s__Stack3 : Sl) (s__Back4 : Sl) (s__Mem5 : Sl) (s__Out6 : ByteArray) (s__In7 : ByteArray) (s__Read8 : Int) (s__Status9 : Int) (s__Code10 : Int) (code11 : Int) (w : World) (K : Value → World → Prop) : Prop :=
 ∀ (b12 : Nat) (w13 : World), b12 = w.heap.size → w13 = World.alloc w (.cells #[.int .i64 s__Ip1, .int .i64 s__Handler2, s__Stack3.val, s__Back4.val, s__Mem5.val, .string s__Out6, .string s__In7, .int .i64 s__Read8, .int .i64 s__Status9, .int .i64 s__Code10] T_api_State) →
 ∀ (b14 : Nat) (w15 : World), b14 = w13.heap.size → w15 = World.alloc w13 (.cells #[.int .i64 (0 : Int), .int .i64 (0 : Int), .slice none 0 0, .slice none 0 0, .slice none 0 0, .string (bs []), .string (bs []), .int .i64 (0 : Int), .int .i64 (0 : Int), .int .i64 (0 : Int)] T_api_State) →
 ∃ n16 : Int, w15.cell? ⟨b12, 1, none⟩ = some (.int .i64 n16) ∧
 ∃ J4 : Bool → World → Prop, (∀ (b25 : Bool) (w24 : World), J4 b25 w24 →
 brB b25
 (∃ s26 : Sl, w24.cell? ⟨b12, 3, none⟩ = some (s26.val) ∧
 ∃ a27 : Addr, s26.ptr = some a27 ∧ 0 ≤ (wr (n16 - (1 : Int))) ∧ (wr (n16 - (1 : Int))) < (s26.len : Int) ∧
 ∃ n28 : Int, w24.cell? (Addr.add a27 (Int.toNat (wr (n16 - (1 : Int))) * 1)) = some (.int .i64 n28) ∧
 ∀ w29 : World, w29 = World.drew w24 →
 ∃ S30 : World → Prop, S30 w29 ∧
 ∃ s31 : Sl, held S30 ⟨b12, 3, none⟩ (s31.val) ∧
 ∃ a32 : Addr, s31.ptr = some a32 ∧ 0 ≤ (wr (n16 - (2 : Int))) ∧ (wr (n16 - (2 : Int))) < (s31.len : Int) ∧
 ∃ n33 : Int, held S30 (Addr.add a32 (Int.toNat (wr (n16 - (2 : Int))) * 1)) (.int .i64 n33) ∧
 ∃ s34 : Sl, held S30 ⟨b12, 3, none⟩ (s34.val) ∧
 ∃ a35 : Addr, s34.ptr = some a35 ∧ 0 ≤ (wr (n16 - (3 : Int))) ∧ (wr (n16 - (3 : Int))) < (s34.len : Int) ∧
 ∃ n36 : Int, held S30 (Addr.add a35 (Int.toNat (wr (n16 - (3 : Int))) * 1)) (.int .i64 n36) ∧
 wrOk w29 ⟨b12, 1, none⟩ 1 ∧ ∀ w37 : World, w37 = stW w29 ⟨b12, 1, none⟩ 0 [.int .i64 n33] →
 S30 w37 ∧
 wrOk w37 ⟨b12, 0, none⟩ 1 ∧ ∀ w38 : World, w38 = stW w37 ⟨b12, 0, none⟩ 0 [.int .i64 n36] →
 ∃ s39 : Sl, w38.cell? ⟨b12, 3, none⟩ = some (s39.val) ∧
 0 ≤ (wr (n16 - (3 : Int))) ∧ (wr (n16 - (3 : Int))) ≤ (s39.cap : Int) ∧ ∀ s40 : Sl, s40 = Sl.sub s39.ptr s39.cap 0 (Int.toNat (wr (n16 - (3 : Int)))) 1 →
 ∃ s41 : Sl, ∃ w42 : World, (Builtin.append_ #[T_sl_int, T_sl_int] T_sl_int #[.slice none 0 0, s40.val]).run Try.prog w38 = .ok (s41.val) w42 ∧
 wrOk w42 ⟨b12, 3, none⟩ 1 ∧ ∀ w43 : World, w43 = stW w42 ⟨b12, 3, none⟩ 0 [s41.val] →
 ∃ s44 : Sl, w43.cell? ⟨b12, 2, none⟩ = some (s44.val) ∧
 ∃ s45 : Sl, w43.cell? ⟨b12, 2, none⟩ = some (s45.val) ∧
 0 ≤ (imin n28 (s45.len : Int)) ∧ (imin n28 (s45.len : Int)) ≤ (s44.cap : Int) ∧ ∀ s46 : Sl, s46 = Sl.sub s44.ptr s44.cap 0 (Int.toNat (imin n28 (s45.len : Int))) 1 →
 ∃ s47 : Sl, ∃ w48 : World, (Builtin.append_ #[T_sl_int, T_sl_int] T_sl_int #[.slice none 0 0, s46.val]).run Try.prog w43 = .ok (s47.val) w48 ∧
 ∃ (I1 : Sl → World → Prop) (μ1 : Sl → World → Nat), I1 s47 w48 ∧ ∀ (l50 : Sl) (w49 : World), I1 l50 w49 →
 brB (decide ((l50.len : Int) < n28))
 (∀ (b51 : Nat) (w52 : World), b51 = w49.heap.size → w52 = World.alloc w49 (.cells #[.int .i64 (0 : Int)] T_int) →
 ∃ s53 : Sl, ∃ w54 : World, (Builtin.append_ #[T_sl_int, T_sl_int] T_sl_int #[l50.val, .slice (some ⟨b51, 0, none⟩) 1 1]).run Try.prog w52 = .ok (s53.val) w54 ∧
 I1 s53 w54 ∧ μ1 s53 w54 < μ1 l50 w49)
 (∀ (b55 : Nat) (w56 : World), b55 = w49.heap.size → w56 = World.alloc w49 (.cells #[.int .i64 code11] T_int) →
 ∃ s57 : Sl, ∃ w58 : World, (Builtin.append_ #[T_sl_int, T_sl_int] T_sl_int #[l50.val, .slice (some ⟨b55, 0, none⟩) 1 1]).run Try.prog w56 = .ok (s57.val) w58 ∧
 wrOk w58 ⟨b12, 2, none⟩ 1 ∧ ∀ w59 : World, w59 = stW w58 ⟨b12, 2, none⟩ 0 [s57.val] →
 ∃ n_Ip60 : Int, ∃ n_Handler61 : Int, ∃ s_Stack62 : Sl, ∃ s_Back63 : Sl, ∃ s_Mem64 : Sl, ∃ t_Out65 : ByteArray, ∃ t_In66 : ByteArray, ∃ n_Read67 : Int, ∃ n_Status68 : Int, ∃ n_Code69 : Int, w59.cell? ⟨b12, 0, none⟩ = some (.int .i64 n_Ip60) ∧ w59.cell? ⟨b12, 1, none⟩ = some (.int .i64 n_Handler61) ∧ w59.cell? ⟨b12, 2, none⟩ = some (s_Stack62.val) ∧ w59.cell? ⟨b12, 3, none⟩ = some (s_Back63.val) ∧ w59.cell? ⟨b12, 4, none⟩ = some (s_Mem64.val) ∧ w59.cell? ⟨b12, 5, none⟩ = some (.string t_Out65) ∧ w59.cell? ⟨b12, 6, none⟩ = some (.string t_In66) ∧ w59.cell? ⟨b12, 7, none⟩ = some (.int .i64 n_Read67) ∧ w59.cell? ⟨b12, 8, none⟩ = some (.int .i64 n_Status68) ∧ w59.cell? ⟨b12, 9, none⟩ = some (.int .i64 n_Code69) ∧
 wrOk w59 ⟨b14, 0, none⟩ 10 ∧ ∀ w70 : World, w70 = stW w59 ⟨b14, 0, none⟩ 0 [.int .i64 n_Ip60, .int .i64 n_Handler61, s_Stack62.val, s_Back63.val, s_Mem64.val, .string t_Out65, .string t_In66, .int .i64 n_Read67, .int .i64 n_Status68, .int .i64 n_Code69] →
 ∃ r_Ip71 : Int, ∃ r_Handler72 : Int, ∃ r_Stack73 : Sl, ∃ r_Back74 : Sl, ∃ r_Mem75 : Sl, ∃ r_Out76 : ByteArray, ∃ r_In77 : ByteArray, ∃ r_Read78 : Int, ∃ r_Status79 : Int, ∃ r_Code80 : Int, w70.cell? ⟨b14, 0, none⟩ = some (.int .i64 r_Ip71) ∧ w70.cell? ⟨b14, 1, none⟩ = some (.int .i64 r_Handler72) ∧ w70.cell? ⟨b14, 2, none⟩ = some (r_Stack73.val) ∧ w70.cell? ⟨b14, 3, none⟩ = some (r_Back74.val) ∧ w70.cell? ⟨b14, 4, none⟩ = some (r_Mem75.val) ∧ w70.cell? ⟨b14, 5, none⟩ = some (.string r_Out76) ∧ w70.cell? ⟨b14, 6, none⟩ = some (.string r_In77) ∧ w70.cell? ⟨b14, 7, none⟩ = some (.int .i64 r_Read78) ∧ w70.cell? ⟨b14, 8, none⟩ = some (.int .i64 r_Status79) ∧ w70.cell? ⟨b14, 9, none⟩ = some (.int .i64 r_Code80) ∧
 K (.agg #[.int .i64 r_Ip71, .int .i64 r_Handler72, r_Stack73.val, r_Back74.val, r_Mem75.val, .string r_Out76, .string r_In77, .int .i64 r_Read78, .int .i64 r_Status79, .int .i64 r_Code80]) w70))
 (wrOk w24 ⟨b12, 8, none⟩ 1 ∧ ∀ w81 : World, w81 = stW w24 ⟨b12, 8, none⟩ 0 [.int .i64 (2 : Int)] →
 wrOk w81 ⟨b12, 9, none⟩ 1 ∧ ∀ w82 : World, w82 = stW w81 ⟨b12, 9, none⟩ 0 [.int .i64 code11] →
 ∃ n_Ip83 : Int, ∃ n_Handler84 : Int, ∃ s_Stack85 : Sl, ∃ s_Back86 : Sl, ∃ s_Mem87 : Sl, ∃ t_Out88 : ByteArray, ∃ t_In89 : ByteArray, ∃ n_Read90 : Int, ∃ n_Status91 : Int, ∃ n_Code92 : Int, w82.cell? ⟨b12, 0, none⟩ = some (.int .i64 n_Ip83) ∧ w82.cell? ⟨b12, 1, none⟩ = some (.int .i64 n_Handler84) ∧ w82.cell? ⟨b12, 2, none⟩ = some (s_Stack85.val) ∧ w82.cell? ⟨b12, 3, none⟩ = some (s_Back86.val) ∧ w82.cell? ⟨b12, 4, none⟩ = some (s_Mem87.val) ∧ w82.cell? ⟨b12, 5, none⟩ = some (.string t_Out88) ∧ w82.cell? ⟨b12, 6, none⟩ = some (.string t_In89) ∧ w82.cell? ⟨b12, 7, none⟩ = some (.int .i64 n_Read90) ∧ w82.cell? ⟨b12, 8, none⟩ = some (.int .i64 n_Status91) ∧ w82.cell? ⟨b12, 9, none⟩ = some (.int .i64 n_Code92) ∧
 wrOk w82 ⟨b14, 0, none⟩ 10 ∧ ∀ w93 : World, w93 = stW w82 ⟨b14, 0, none⟩ 0 [.int .i64 n_Ip83, .int .i64 n_Handler84, s_Stack85.val, s_Back86.val, s_Mem87.val, .string t_Out88, .string t_In89, .int .i64 n_Read90, .int .i64 n_Status91, .int .i64 n_Code92] →
 ∃ r_Ip94 : Int, ∃ r_Handler95 : Int, ∃ r_Stack96 : Sl, ∃ r_Back97 : Sl, ∃ r_Mem98 : Sl, ∃ r_Out99 : ByteArray, ∃ r_In100 : ByteArray, ∃ r_Read101 : Int, ∃ r_Status102 : Int, ∃ r_Code103 : Int, w93.cell? ⟨b14, 0, none⟩ = some (.int .i64 r_Ip94) ∧ w93.cell? ⟨b14, 1, none⟩ = some (.int .i64 r_Handler95) ∧ w93.cell? ⟨b14, 2, none⟩ = some (r_Stack96.val) ∧ w93.cell? ⟨b14, 3, none⟩ = some (r_Back97.val) ∧ w93.cell? ⟨b14, 4, none⟩ = some (r_Mem98.val) ∧ w93.cell? ⟨b14, 5, none⟩ = some (.string r_Out99) ∧ w93.cell? ⟨b14, 6, none⟩ = some (.string r_In100) ∧ w93.cell? ⟨b14, 7, none⟩ = some (.int .i64 r_Read101) ∧ w93.cell? ⟨b14, 8, none⟩ = some (.int .i64 r_Status102) ∧ w93.cell? ⟨b14, 9, none⟩ = some (.int .i64 r_Code103) ∧
 K (.agg #[.int .i64 r_Ip94, .int .i64 r_Handler95, r_Stack96.val, r_Back97.val, r_Mem98.val, .string r_Out99, .string r_In100, .int .i64 r_Read101, .int .i64 r_Status102, .int .i64 r_Code103]) w93)) ∧
 brB (decide (n16 ≥ (3 : Int)))
 (∃ s17 : Sl, w15.cell? ⟨b12, 3, none⟩ = some (s17.val) ∧
 brB (decide (n16 ≤ (s17.len : Int)))
 (∃ s18 : Sl, w15.cell? ⟨b12, 3, none⟩ = some (s18.val) ∧
 ∃ a19 : Addr, s18.ptr = some a19 ∧ 0 ≤ (wr (n16 - (1 : Int))) ∧ (wr (n16 - (1 : Int))) < (s18.len : Int) ∧
 ∃ n20 : Int, w15.cell? (Addr.add a19 (Int.toNat (wr (n16 - (1 : Int))) * 1)) = some (.int .i64 n20) ∧
 brB (decide (n20 ≥ (0 : Int)))
 (∃ s21 : Sl, w15.cell? ⟨b12, 3, none⟩ = some (s21.val) ∧
 ∃ a22 : Addr, s21.ptr = some a22 ∧ 0 ≤ (wr (n16 - (1 : Int))) ∧ (wr (n16 - (1 : Int))) < (s21.len : Int) ∧
 ∃ n23 : Int, w15.cell? (Addr.add a22 (Int.toNat (wr (n16 - (1 : Int))) * 1)) = some (.int .i64 n23) ∧
 J4 (decide (n23 < (48 : Int))) w15)
 (J4 false w15))
 (J4 false w15))
 (J4 false w15)
def hollowayref9_Fault_an : An := ⟨[(7, [(7, .sl)])], [(4, (14, .st 0 (.st 1 (.st 2 (.st 3 (.st 4 (.st 5 (.st 6 (.st 7 (.st 8 (.st 9 (.st 10 (.st 11 (.st 12 (.ef 13 .done))))))))))))), 1))], [(3, [(36, .bool)])]⟩
theorem hollowayref9_Fault_lift {s__Ip1 : Int} {s__Handler2 : Int} {s__Stack3 : Sl} {s__Back4 : Sl} {s__Mem5 : Sl} {s__Out6 : ByteArray} {s__In7 : ByteArray} {s__Read8 : Int} {s__Status9 : Int} {s__Code10 : Int} {code11 : Int} {w : World} {K : Value → World → Prop} (h : hollowayref9_Fault_sh s__Ip1 s__Handler2 s__Stack3 s__Back4 s__Mem5 s__Out6 s__In7 s__Read8 s__Status9 s__Code10 code11 w K) : Calls Try.prog fn_hollowayref9_Fault #[.agg #[.int .i64 s__Ip1, .int .i64 s__Handler2, s__Stack3.val, s__Back4.val, s__Mem5.val, .string s__Out6, .string s__In7, .int .i64 s__Read8, .int .i64 s__Status9, .int .i64 s__Code10], .int .i64 code11] w fun e w' => ∃ v, e = .returned v ∧ K v w' :=
   lift_calls (A := hollowayref9_Fault_an) (c := bodyOf Try.f41) (args := [.agg #[.int .i64 s__Ip1, .int .i64 s__Handler2, s__Stack3.val, s__Back4.val, s__Mem5.val, .string s__Out6, .string s__In7, .int .i64 s__Read8, .int .i64 s__Status9, .int .i64 s__Code10], .int .i64 code11]) orc orc_wide Try.func41 (by kernel_rfl) (by kernel_rfl) (Eq.mp (by kernel_rfl : hollowayref9_Fault_sh s__Ip1 s__Handler2 s__Stack3 s__Back4 s__Mem5 s__Out6 s__In7 s__Read8 s__Status9 s__Code10 code11 w K = wpc orc Try.f41.ntmps hollowayref9_Fault_an (bodyOf Try.f41) (argl 0 [.agg #[.int .i64 s__Ip1, .int .i64 s__Handler2, s__Stack3.val, s__Back4.val, s__Mem5.val, .string s__Out6, .string s__In7, .int .i64 s__Read8, .int .i64 s__Status9, .int .i64 s__Code10], .int .i64 code11]) w (retQ orc Try.f41.results.toList K)) h)

end Go.Proofs.Ytkjpmkopnkkbmaa
