/- The lifted texts of the laws. -/
import Derived.Test.YtblmoilneiffgaaGreatJ4

/- Functions of Slots, read without their frames; that each is enough. Printed by a program of mine (wip/lift/gen.py). -/
set_option maxRecDepth 100000
namespace Go.Proofs.YtblmoilneiffgaaGreat
open Go.RowKit

def slots_Make_sh (t1 : Int) (t2 : Int) (t3 : Int) (t4 : Int) (t5 : Int) (t6 : Sl) (t7 : Sl) (t8 : Int) (t9 : Sl) (most10 : Int) (w : World) (K : Value → World → Prop) : Prop :=
 ∀ (b11 : Nat) (w12 : World), b11 = w.heap.size → w12 = World.alloc w (.cells #[.int .i64 t1, .int .i64 t2, .int .i64 t3, .int .i64 t4, .int .i64 t5, t6.val, t7.val, .int .i64 t8, t9.val] T_api_Trace) →
 ∃ J3 : Bool → World → Prop, (∀ (b38 : Bool) (w37 : World), J3 b38 w37 →
 brB b38
 (K (.tuple #[.pointer none, .bool false]) w37)
 (∃ n39 n40 : Int, ∃ n41 n42 n43 : Int, ∃ s44 s45 : Sl, ∃ n46 : Int, ∃ s47 : Sl, w37.cell? ⟨b11, 0, none⟩ = some (.int .i64 n39) ∧ w37.cell? ⟨b11, 1, none⟩ = some (.int .i64 n40) ∧ w37.cell? ⟨b11, 2, none⟩ = some (.int .i64 n41) ∧ w37.cell? ⟨b11, 3, none⟩ = some (.int .i64 n42) ∧ w37.cell? ⟨b11, 4, none⟩ = some (.int .i64 n43) ∧ w37.cell? ⟨b11, 5, none⟩ = some (s44.val) ∧ w37.cell? ⟨b11, 6, none⟩ = some (s45.val) ∧ w37.cell? ⟨b11, 7, none⟩ = some (.int .i64 n46) ∧ w37.cell? ⟨b11, 8, none⟩ = some (s47.val) ∧
 Calls Tryz.prog fn_slots_own #[.agg #[.int .i64 n39, .int .i64 n40, .int .i64 n41, .int .i64 n42, .int .i64 n43, s44.val, s45.val, .int .i64 n46, s47.val]] w37 fun e48 w49 => ∃ n50 n51 : Int, ∃ n52 n53 n54 : Int, ∃ s55 s56 : Sl, ∃ n57 : Int, ∃ s58 : Sl, e48 = .returned (.agg #[.int .i64 n50, .int .i64 n51, .int .i64 n52, .int .i64 n53, .int .i64 n54, s55.val, s56.val, .int .i64 n57, s58.val]) ∧
 wrOk w49 ⟨b11, 0, none⟩ 9 ∧ ∀ w59 : World, w59 = stW w49 ⟨b11, 0, none⟩ 0 [.int .i64 n50, .int .i64 n51, .int .i64 n52, .int .i64 n53, .int .i64 n54, s55.val, s56.val, .int .i64 n57, s58.val] →
 ∃ n60 n61 : Int, ∃ n62 n63 n64 : Int, ∃ s65 s66 : Sl, ∃ n67 : Int, ∃ s68 : Sl, w59.cell? ⟨b11, 0, none⟩ = some (.int .i64 n60) ∧ w59.cell? ⟨b11, 1, none⟩ = some (.int .i64 n61) ∧ w59.cell? ⟨b11, 2, none⟩ = some (.int .i64 n62) ∧ w59.cell? ⟨b11, 3, none⟩ = some (.int .i64 n63) ∧ w59.cell? ⟨b11, 4, none⟩ = some (.int .i64 n64) ∧ w59.cell? ⟨b11, 5, none⟩ = some (s65.val) ∧ w59.cell? ⟨b11, 6, none⟩ = some (s66.val) ∧ w59.cell? ⟨b11, 7, none⟩ = some (.int .i64 n67) ∧ w59.cell? ⟨b11, 8, none⟩ = some (s68.val) ∧
 Calls Tryz.prog fn_slots_allot #[.agg #[.int .i64 n60, .int .i64 n61, .int .i64 n62, .int .i64 n63, .int .i64 n64, s65.val, s66.val, .int .i64 n67, s68.val]] w59 fun e69 w70 => ∃ s71 : Sl, ∃ n72 : Int, e69 = .returned (.tuple #[s71.val, .int .i64 n72]) ∧
 ∃ n73 n74 : Int, ∃ n75 n76 n77 : Int, ∃ s78 s79 : Sl, ∃ n80 : Int, ∃ s81 : Sl, w70.cell? ⟨b11, 0, none⟩ = some (.int .i64 n73) ∧ w70.cell? ⟨b11, 1, none⟩ = some (.int .i64 n74) ∧ w70.cell? ⟨b11, 2, none⟩ = some (.int .i64 n75) ∧ w70.cell? ⟨b11, 3, none⟩ = some (.int .i64 n76) ∧ w70.cell? ⟨b11, 4, none⟩ = some (.int .i64 n77) ∧ w70.cell? ⟨b11, 5, none⟩ = some (s78.val) ∧ w70.cell? ⟨b11, 6, none⟩ = some (s79.val) ∧ w70.cell? ⟨b11, 7, none⟩ = some (.int .i64 n80) ∧ w70.cell? ⟨b11, 8, none⟩ = some (s81.val) ∧
 ∀ (b82 : Nat) (w83 : World), b82 = w70.heap.size → w83 = World.alloc w70 (.cells #[.int .i64 n73, .int .i64 n74, .int .i64 n75, .int .i64 n76, .int .i64 n77, s78.val, s79.val, .int .i64 n80, s81.val, s71.val, .int .i64 n72] T_slots_Code) →
 K (.tuple #[.pointer (some ⟨b82, 0, none⟩), .bool true]) w83)) ∧
 ∃ n13 n14 : Int, ∃ n15 n16 n17 : Int, ∃ s18 s19 : Sl, ∃ n20 : Int, ∃ s21 : Sl, w12.cell? ⟨b11, 0, none⟩ = some (.int .i64 n13) ∧ w12.cell? ⟨b11, 1, none⟩ = some (.int .i64 n14) ∧ w12.cell? ⟨b11, 2, none⟩ = some (.int .i64 n15) ∧ w12.cell? ⟨b11, 3, none⟩ = some (.int .i64 n16) ∧ w12.cell? ⟨b11, 4, none⟩ = some (.int .i64 n17) ∧ w12.cell? ⟨b11, 5, none⟩ = some (s18.val) ∧ w12.cell? ⟨b11, 6, none⟩ = some (s19.val) ∧ w12.cell? ⟨b11, 7, none⟩ = some (.int .i64 n20) ∧ w12.cell? ⟨b11, 8, none⟩ = some (s21.val) ∧
 Calls Tryz.prog fn_ir_Right #[.agg #[.int .i64 n13, .int .i64 n14, .int .i64 n15, .int .i64 n16, .int .i64 n17, s18.val, s19.val, .int .i64 n20, s21.val]] w12 fun e22 w23 => ∃ b24 : Bool, e22 = .returned (.bool b24) ∧
 brB (!b24)
 (J3 true w23)
 (∃ n25 n26 : Int, ∃ n27 n28 n29 : Int, ∃ s30 s31 : Sl, ∃ n32 : Int, ∃ s33 : Sl, w23.cell? ⟨b11, 0, none⟩ = some (.int .i64 n25) ∧ w23.cell? ⟨b11, 1, none⟩ = some (.int .i64 n26) ∧ w23.cell? ⟨b11, 2, none⟩ = some (.int .i64 n27) ∧ w23.cell? ⟨b11, 3, none⟩ = some (.int .i64 n28) ∧ w23.cell? ⟨b11, 4, none⟩ = some (.int .i64 n29) ∧ w23.cell? ⟨b11, 5, none⟩ = some (s30.val) ∧ w23.cell? ⟨b11, 6, none⟩ = some (s31.val) ∧ w23.cell? ⟨b11, 7, none⟩ = some (.int .i64 n32) ∧ w23.cell? ⟨b11, 8, none⟩ = some (s33.val) ∧
 Calls Tryz.prog fn_slots_Least #[.agg #[.int .i64 n25, .int .i64 n26, .int .i64 n27, .int .i64 n28, .int .i64 n29, s30.val, s31.val, .int .i64 n32, s33.val]] w23 fun e34 w35 => ∃ n36 : Int, e34 = .returned (.int .i64 n36) ∧
 J3 (decide (most10 < n36)) w35)
def slots_Make_an : An := ⟨[], [], [(2, [(16, .bool)])]⟩
theorem slots_Make_lift {t1 : Int} {t2 : Int} {t3 : Int} {t4 : Int} {t5 : Int} {t6 : Sl} {t7 : Sl} {t8 : Int} {t9 : Sl} {most10 : Int} {w : World} {K : Value → World → Prop} (h : slots_Make_sh t1 t2 t3 t4 t5 t6 t7 t8 t9 most10 w K) : Calls Tryz.prog fn_slots_Make #[.agg #[.int .i64 t1, .int .i64 t2, .int .i64 t3, .int .i64 t4, .int .i64 t5, t6.val, t7.val, .int .i64 t8, t9.val], .int .i64 most10] w fun e w' => ∃ v, e = .returned v ∧ K v w' :=
   lift_calls (A := slots_Make_an) (c := bodyOf Tryz.f31) (args := [.agg #[.int .i64 t1, .int .i64 t2, .int .i64 t3, .int .i64 t4, .int .i64 t5, t6.val, t7.val, .int .i64 t8, t9.val], .int .i64 most10]) orc orc_wide Tryz.func31 (by kernel_rfl) (by kernel_rfl) (Eq.mp (by kernel_rfl : slots_Make_sh t1 t2 t3 t4 t5 t6 t7 t8 t9 most10 w K = wpc orc Tryz.f31.ntmps slots_Make_an (bodyOf Tryz.f31) (argl 0 [.agg #[.int .i64 t1, .int .i64 t2, .int .i64 t3, .int .i64 t4, .int .i64 t5, t6.val, t7.val, .int .i64 t8, t9.val], .int .i64 most10]) w (retQ orc Tryz.f31.results.toList K)) h)

def slots_Least_sh (t1 : Int) (t2 : Int) (t3 : Int) (t4 : Int) (t5 : Int) (t6 : Sl) (t7 : Sl) (t8 : Int) (t9 : Sl) (w : World) (K : Value → World → Prop) : Prop :=
 ∀ (b10 : Nat) (w11 : World), b10 = w.heap.size → w11 = World.alloc w (.cells #[.int .i64 t1, .int .i64 t2, .int .i64 t3, .int .i64 t4, .int .i64 t5, t6.val, t7.val, .int .i64 t8, t9.val] T_api_Trace) →
 ∃ n12 n13 : Int, ∃ n14 n15 n16 : Int, ∃ s17 s18 : Sl, ∃ n19 : Int, ∃ s20 : Sl, w11.cell? ⟨b10, 0, none⟩ = some (.int .i64 n12) ∧ w11.cell? ⟨b10, 1, none⟩ = some (.int .i64 n13) ∧ w11.cell? ⟨b10, 2, none⟩ = some (.int .i64 n14) ∧ w11.cell? ⟨b10, 3, none⟩ = some (.int .i64 n15) ∧ w11.cell? ⟨b10, 4, none⟩ = some (.int .i64 n16) ∧ w11.cell? ⟨b10, 5, none⟩ = some (s17.val) ∧ w11.cell? ⟨b10, 6, none⟩ = some (s18.val) ∧ w11.cell? ⟨b10, 7, none⟩ = some (.int .i64 n19) ∧ w11.cell? ⟨b10, 8, none⟩ = some (s20.val) ∧
 Calls Tryz.prog fn_ir_Right #[.agg #[.int .i64 n12, .int .i64 n13, .int .i64 n14, .int .i64 n15, .int .i64 n16, s17.val, s18.val, .int .i64 n19, s20.val]] w11 fun e21 w22 => ∃ b23 : Bool, e21 = .returned (.bool b23) ∧
 brB (!b23)
 (K (.int .i64 (0 : Int)) w22)
 (∃ n24 n25 : Int, ∃ n26 n27 n28 : Int, ∃ s29 s30 : Sl, ∃ n31 : Int, ∃ s32 : Sl, w22.cell? ⟨b10, 0, none⟩ = some (.int .i64 n24) ∧ w22.cell? ⟨b10, 1, none⟩ = some (.int .i64 n25) ∧ w22.cell? ⟨b10, 2, none⟩ = some (.int .i64 n26) ∧ w22.cell? ⟨b10, 3, none⟩ = some (.int .i64 n27) ∧ w22.cell? ⟨b10, 4, none⟩ = some (.int .i64 n28) ∧ w22.cell? ⟨b10, 5, none⟩ = some (s29.val) ∧ w22.cell? ⟨b10, 6, none⟩ = some (s30.val) ∧ w22.cell? ⟨b10, 7, none⟩ = some (.int .i64 n31) ∧ w22.cell? ⟨b10, 8, none⟩ = some (s32.val) ∧
 Calls Tryz.prog fn_slots_allot #[.agg #[.int .i64 n24, .int .i64 n25, .int .i64 n26, .int .i64 n27, .int .i64 n28, s29.val, s30.val, .int .i64 n31, s32.val]] w22 fun e33 w34 => ∃ s35 : Sl, ∃ n36 : Int, e33 = .returned (.tuple #[s35.val, .int .i64 n36]) ∧
 K (.int .i64 n36) w34)
def slots_Least_an : An := ⟨[], [], []⟩
theorem slots_Least_lift {t1 : Int} {t2 : Int} {t3 : Int} {t4 : Int} {t5 : Int} {t6 : Sl} {t7 : Sl} {t8 : Int} {t9 : Sl} {w : World} {K : Value → World → Prop} (h : slots_Least_sh t1 t2 t3 t4 t5 t6 t7 t8 t9 w K) : Calls Tryz.prog fn_slots_Least #[.agg #[.int .i64 t1, .int .i64 t2, .int .i64 t3, .int .i64 t4, .int .i64 t5, t6.val, t7.val, .int .i64 t8, t9.val]] w fun e w' => ∃ v, e = .returned v ∧ K v w' :=
   lift_calls (A := slots_Least_an) (c := bodyOf Tryz.f32) (args := [.agg #[.int .i64 t1, .int .i64 t2, .int .i64 t3, .int .i64 t4, .int .i64 t5, t6.val, t7.val, .int .i64 t8, t9.val]]) orc orc_wide Tryz.func32 (by kernel_rfl) (by kernel_rfl) (Eq.mp (by kernel_rfl : slots_Least_sh t1 t2 t3 t4 t5 t6 t7 t8 t9 w K = wpc orc Tryz.f32.ntmps slots_Least_an (bodyOf Tryz.f32) (argl 0 [.agg #[.int .i64 t1, .int .i64 t2, .int .i64 t3, .int .i64 t4, .int .i64 t5, t6.val, t7.val, .int .i64 t8, t9.val]]) w (retQ orc Tryz.f32.results.toList K)) h)

def slots_Code_Len_sh (c_1 : Nat) (w : World) (K : Value → World → Prop) : Prop :=
 ∃ s2 : Sl, w.cell? ⟨c_1, 5, none⟩ = some (s2.val) ∧
 K (.int .i64 (s2.len : Int)) w
def slots_Code_Len_an : An := ⟨[], [], []⟩
theorem slots_Code_Len_lift {c_1 : Nat} {w : World} {K : Value → World → Prop} (h : slots_Code_Len_sh c_1 w K) : Calls Tryz.prog fn_slots_Code_Len #[.pointer (some ⟨c_1, 0, none⟩)] w fun e w' => ∃ v, e = .returned v ∧ K v w' :=
   lift_calls (A := slots_Code_Len_an) (c := bodyOf Tryz.f34) (args := [.pointer (some ⟨c_1, 0, none⟩)]) orc orc_wide Tryz.func34 (by kernel_rfl) (by kernel_rfl) (Eq.mp (by kernel_rfl : slots_Code_Len_sh c_1 w K = wpc orc Tryz.f34.ntmps slots_Code_Len_an (bodyOf Tryz.f34) (argl 0 [.pointer (some ⟨c_1, 0, none⟩)]) w (retQ orc Tryz.f34.results.toList K)) h)

def slots_Code_Registers_sh (c_1 : Nat) (w : World) (K : Value → World → Prop) : Prop :=
 ∃ n2 : Int, w.cell? ⟨c_1, 10, none⟩ = some (.int .i64 n2) ∧
 K (.int .i64 n2) w
def slots_Code_Registers_an : An := ⟨[], [], []⟩
theorem slots_Code_Registers_lift {c_1 : Nat} {w : World} {K : Value → World → Prop} (h : slots_Code_Registers_sh c_1 w K) : Calls Tryz.prog fn_slots_Code_Registers #[.pointer (some ⟨c_1, 0, none⟩)] w fun e w' => ∃ v, e = .returned v ∧ K v w' :=
   lift_calls (A := slots_Code_Registers_an) (c := bodyOf Tryz.f35) (args := [.pointer (some ⟨c_1, 0, none⟩)]) orc orc_wide Tryz.func35 (by kernel_rfl) (by kernel_rfl) (Eq.mp (by kernel_rfl : slots_Code_Registers_sh c_1 w K = wpc orc Tryz.f35.ntmps slots_Code_Registers_an (bodyOf Tryz.f35) (argl 0 [.pointer (some ⟨c_1, 0, none⟩)]) w (retQ orc Tryz.f35.results.toList K)) h)

def slots_Code_Run_sh (c_1 : Nat) (s2 : Int) (s3 : Int) (s4 : Sl) (s5 : Sl) (s6 : Sl) (s7 : ByteArray) (s8 : ByteArray) (s9 : Int) (s10 : Int) (s11 : Int) (watched12 : Sl) (w : World) (K : Value → World → Prop) : Prop :=
 ∀ (b13 : Nat) (w14 : World), b13 = w.heap.size → w14 = World.alloc w (.cells #[.int .i64 s2, .int .i64 s3, s4.val, s5.val, s6.val, .string s7, .string s8, .int .i64 s9, .int .i64 s10, .int .i64 s11] T_api_State) →
 ∀ (b15 : Nat) (w16 : World), b15 = w14.heap.size → w16 = World.alloc w14 (.cells #[.int .i64 (0 : Int), .int .i64 (0 : Int), .slice none 0 0, .slice none 0 0, .slice none 0 0, .string (bs []), .string (bs []), .int .i64 (0 : Int), .int .i64 (0 : Int), .int .i64 (0 : Int)] T_api_State) →
 ∀ (b17 : Nat) (w18 : World), b17 = w16.heap.size → w18 = World.alloc w16 (.cells #[.int .i64 (0 : Int), .int .i64 (0 : Int), .bool false] T_eval_Done) →
 ∃ n19 n20 : Int, ∃ s21 s22 s23 : Sl, ∃ t24 t25 : ByteArray, ∃ n26 n27 n28 : Int, w18.cell? ⟨b13, 0, none⟩ = some (.int .i64 n19) ∧ w18.cell? ⟨b13, 1, none⟩ = some (.int .i64 n20) ∧ w18.cell? ⟨b13, 2, none⟩ = some (s21.val) ∧ w18.cell? ⟨b13, 3, none⟩ = some (s22.val) ∧ w18.cell? ⟨b13, 4, none⟩ = some (s23.val) ∧ w18.cell? ⟨b13, 5, none⟩ = some (.string t24) ∧ w18.cell? ⟨b13, 6, none⟩ = some (.string t25) ∧ w18.cell? ⟨b13, 7, none⟩ = some (.int .i64 n26) ∧ w18.cell? ⟨b13, 8, none⟩ = some (.int .i64 n27) ∧ w18.cell? ⟨b13, 9, none⟩ = some (.int .i64 n28) ∧
 Calls Tryz.prog fn_slots_Code_Through #[.pointer (some ⟨c_1, 0, none⟩), .agg #[.int .i64 n19, .int .i64 n20, s21.val, s22.val, s23.val, .string t24, .string t25, .int .i64 n26, .int .i64 n27, .int .i64 n28], watched12.val] w18 fun e29 w30 => ∃ n31 n32 : Int, ∃ s33 s34 s35 : Sl, ∃ t36 t37 : ByteArray, ∃ n38 n39 : Int, ∃ n40 n41 n42 : Int, ∃ b43 : Bool, ∃ n44 : Int, e29 = .returned (.tuple #[.agg #[.int .i64 n31, .int .i64 n32, s33.val, s34.val, s35.val, .string t36, .string t37, .int .i64 n38, .int .i64 n39, .int .i64 n40], .agg #[.int .i64 n41, .int .i64 n42, .bool b43], .int .i64 n44]) ∧
 ∀ (b45 : Nat) (w46 : World), b45 = w30.heap.size → w46 = World.alloc w30 (.cells #[.int .i64 (0 : Int), .int .i64 (0 : Int), .slice none 0 0, .slice none 0 0, .slice none 0 0, .string (bs []), .string (bs []), .int .i64 (0 : Int), .int .i64 (0 : Int), .int .i64 (0 : Int)] T_api_State) →
 ∀ (b47 : Nat) (w48 : World), b47 = w46.heap.size → w48 = World.alloc w46 (.cells #[.int .i64 (0 : Int), .int .i64 (0 : Int), .bool false] T_eval_Done) →
 wrOk w48 ⟨b45, 0, none⟩ 10 ∧ ∀ w49 : World, w49 = stW w48 ⟨b45, 0, none⟩ 0 [.int .i64 n31, .int .i64 n32, s33.val, s34.val, s35.val, .string t36, .string t37, .int .i64 n38, .int .i64 n39, .int .i64 n40] →
 wrOk w49 ⟨b47, 0, none⟩ 3 ∧ ∀ w50 : World, w50 = stW w49 ⟨b47, 0, none⟩ 0 [.int .i64 n41, .int .i64 n42, .bool b43] →
 ∀ w51 : World, w51 = World.drew w50 →
 ∃ S52 : World → Prop, S52 w51 ∧
 ∃ n53 n54 : Int, ∃ s55 s56 s57 : Sl, ∃ t58 t59 : ByteArray, ∃ n60 n61 n62 : Int, held S52 ⟨b45, 0, none⟩ (.int .i64 n53) ∧ held S52 ⟨b45, 1, none⟩ (.int .i64 n54) ∧ held S52 ⟨b45, 2, none⟩ (s55.val) ∧ held S52 ⟨b45, 3, none⟩ (s56.val) ∧ held S52 ⟨b45, 4, none⟩ (s57.val) ∧ held S52 ⟨b45, 5, none⟩ (.string t58) ∧ held S52 ⟨b45, 6, none⟩ (.string t59) ∧ held S52 ⟨b45, 7, none⟩ (.int .i64 n60) ∧ held S52 ⟨b45, 8, none⟩ (.int .i64 n61) ∧ held S52 ⟨b45, 9, none⟩ (.int .i64 n62) ∧
 ∃ n63 n64 : Int, ∃ b65 : Bool, held S52 ⟨b47, 0, none⟩ (.int .i64 n63) ∧ held S52 ⟨b47, 1, none⟩ (.int .i64 n64) ∧ held S52 ⟨b47, 2, none⟩ (.bool b65) ∧
 wrOk w51 ⟨b15, 0, none⟩ 10 ∧ ∀ w66 : World, w66 = stW w51 ⟨b15, 0, none⟩ 0 [.int .i64 n53, .int .i64 n54, s55.val, s56.val, s57.val, .string t58, .string t59, .int .i64 n60, .int .i64 n61, .int .i64 n62] →
 S52 w66 ∧
 wrOk w66 ⟨b17, 0, none⟩ 3 ∧ ∀ w67 : World, w67 = stW w66 ⟨b17, 0, none⟩ 0 [.int .i64 n63, .int .i64 n64, .bool b65] →
 ∃ r68 r69 : Int, ∃ r70 r71 r72 : Sl, ∃ r73 r74 : ByteArray, ∃ r75 r76 r77 : Int, w67.cell? ⟨b15, 0, none⟩ = some (.int .i64 r68) ∧ w67.cell? ⟨b15, 1, none⟩ = some (.int .i64 r69) ∧ w67.cell? ⟨b15, 2, none⟩ = some (r70.val) ∧ w67.cell? ⟨b15, 3, none⟩ = some (r71.val) ∧ w67.cell? ⟨b15, 4, none⟩ = some (r72.val) ∧ w67.cell? ⟨b15, 5, none⟩ = some (.string r73) ∧ w67.cell? ⟨b15, 6, none⟩ = some (.string r74) ∧ w67.cell? ⟨b15, 7, none⟩ = some (.int .i64 r75) ∧ w67.cell? ⟨b15, 8, none⟩ = some (.int .i64 r76) ∧ w67.cell? ⟨b15, 9, none⟩ = some (.int .i64 r77) ∧
 ∃ r78 r79 : Int, ∃ r80 : Bool, w67.cell? ⟨b17, 0, none⟩ = some (.int .i64 r78) ∧ w67.cell? ⟨b17, 1, none⟩ = some (.int .i64 r79) ∧ w67.cell? ⟨b17, 2, none⟩ = some (.bool r80) ∧
 K (.tuple #[.agg #[.int .i64 r68, .int .i64 r69, r70.val, r71.val, r72.val, .string r73, .string r74, .int .i64 r75, .int .i64 r76, .int .i64 r77], .agg #[.int .i64 r78, .int .i64 r79, .bool r80]]) w67
def slots_Code_Run_an : An := ⟨[], [(2, (3, .st 0 (.st 1 (.ef 2 .done)), 1))], []⟩
theorem slots_Code_Run_lift {c_1 : Nat} {s2 : Int} {s3 : Int} {s4 : Sl} {s5 : Sl} {s6 : Sl} {s7 : ByteArray} {s8 : ByteArray} {s9 : Int} {s10 : Int} {s11 : Int} {watched12 : Sl} {w : World} {K : Value → World → Prop} (h : slots_Code_Run_sh c_1 s2 s3 s4 s5 s6 s7 s8 s9 s10 s11 watched12 w K) : Calls Tryz.prog fn_slots_Code_Run #[.pointer (some ⟨c_1, 0, none⟩), .agg #[.int .i64 s2, .int .i64 s3, s4.val, s5.val, s6.val, .string s7, .string s8, .int .i64 s9, .int .i64 s10, .int .i64 s11], watched12.val] w fun e w' => ∃ v, e = .returned v ∧ K v w' :=
   lift_calls (A := slots_Code_Run_an) (c := bodyOf Tryz.f36) (args := [.pointer (some ⟨c_1, 0, none⟩), .agg #[.int .i64 s2, .int .i64 s3, s4.val, s5.val, s6.val, .string s7, .string s8, .int .i64 s9, .int .i64 s10, .int .i64 s11], watched12.val]) orc orc_wide Tryz.func36 (by kernel_rfl) (by kernel_rfl) (Eq.mp (by kernel_rfl : slots_Code_Run_sh c_1 s2 s3 s4 s5 s6 s7 s8 s9 s10 s11 watched12 w K = wpc orc Tryz.f36.ntmps slots_Code_Run_an (bodyOf Tryz.f36) (argl 0 [.pointer (some ⟨c_1, 0, none⟩), .agg #[.int .i64 s2, .int .i64 s3, s4.val, s5.val, s6.val, .string s7, .string s8, .int .i64 s9, .int .i64 s10, .int .i64 s11], watched12.val]) w (retQ orc Tryz.f36.results.toList K)) h)

def slots_own_sh (t1 : Int) (t2 : Int) (t3 : Int) (t4 : Int) (t5 : Int) (t6 : Sl) (t7 : Sl) (t8 : Int) (t9 : Sl) (w : World) (K : Value → World → Prop) : Prop :=
 ∀ (b10 : Nat) (w11 : World), b10 = w.heap.size → w11 = World.alloc w (.cells #[.int .i64 t1, .int .i64 t2, .int .i64 t3, .int .i64 t4, .int .i64 t5, t6.val, t7.val, .int .i64 t8, t9.val] T_api_Trace) →
 ∀ (b12 : Nat) (w13 : World), b12 = w11.heap.size → w13 = World.alloc w11 (.cells #[.int .i64 (0 : Int), .int .i64 (0 : Int), .int .i64 (0 : Int), .int .i64 (0 : Int), .int .i64 (0 : Int), .slice none 0 0, .slice none 0 0, .int .i64 (0 : Int), .slice none 0 0] T_api_Trace) →
 ∀ w14 : World, w14 = World.drew w13 →
 ∃ S15 R16 : World → Prop, (∀ w17 : World, S15 w17 → R16 w17) ∧ S15 w14 ∧
 ∃ s18 : Sl, held S15 ⟨b10, 5, none⟩ (s18.val) ∧
 ∃ s19 : Sl, held R16 ⟨b10, 6, none⟩ (s19.val) ∧
 ∃ s20 : Sl, held R16 ⟨b10, 8, none⟩ (s20.val) ∧
 Calls Tryz.prog fn_slices_Clone_sl_api_Ins_api_Ins #[s18.val] w14 fun e21 w22 => ∃ s23 : Sl, e21 = .returned (s23.val) ∧
 R16 w22 ∧
 Calls Tryz.prog fn_slices_Clone_sl_api_Out_api_Out #[s19.val] w22 fun e24 w25 => ∃ s26 : Sl, e24 = .returned (s26.val) ∧
 R16 w25 ∧
 Calls Tryz.prog fn_slices_Clone_sl_int_int #[s20.val] w25 fun e27 w28 => ∃ s29 : Sl, e27 = .returned (s29.val) ∧
 R16 w28 ∧
 wrOk w28 ⟨b10, 5, none⟩ 1 ∧ ∀ w30 : World, w30 = stW w28 ⟨b10, 5, none⟩ 0 [s23.val] →
 wrOk w30 ⟨b10, 6, none⟩ 1 ∧ ∀ w31 : World, w31 = stW w30 ⟨b10, 6, none⟩ 0 [s26.val] →
 wrOk w31 ⟨b10, 8, none⟩ 1 ∧ ∀ w32 : World, w32 = stW w31 ⟨b10, 8, none⟩ 0 [s29.val] →
 ∃ s33 : Sl, w32.cell? ⟨b10, 6, none⟩ = some (s33.val) ∧
 ∃ (I1 : Int → World → Prop) (μ1 : Int → World → Nat), I1 (0 : Int) w32 ∧ ∀ (n35 : Int) (w34 : World), I1 n35 w34 →
 brB (decide (n35 < (s33.len : Int)))
 (∀ w36 : World, w36 = World.drew w34 →
 ∃ S37 R38 : World → Prop, (∀ w39 : World, S37 w39 → R38 w39) ∧ S37 w36 ∧
 ∃ s40 : Sl, held R38 ⟨b10, 6, none⟩ (s40.val) ∧
 ∃ s41 : Sl, held R38 ⟨b10, 6, none⟩ (s41.val) ∧
 ∃ s42 : Sl, held R38 ⟨b10, 6, none⟩ (s42.val) ∧
 ∃ a43 : Addr, s42.ptr = some a43 ∧ 0 ≤ n35 ∧ n35 < (s42.len : Int) ∧
 ∃ s44 : Sl, held S37 (Addr.add (Addr.add a43 (Int.toNat n35 * 4)) 2) (s44.val) ∧
 ∃ s45 : Sl, held R38 ⟨b10, 6, none⟩ (s45.val) ∧
 ∃ a46 : Addr, s45.ptr = some a46 ∧ 0 ≤ n35 ∧ n35 < (s45.len : Int) ∧
 ∃ s47 : Sl, held R38 (Addr.add (Addr.add a46 (Int.toNat n35 * 4)) 3) (s47.val) ∧
 Calls Tryz.prog fn_slices_Clone_sl_int_int #[s44.val] w36 fun e48 w49 => ∃ s50 : Sl, e48 = .returned (s50.val) ∧
 R38 w49 ∧
 Calls Tryz.prog fn_slices_Clone_sl_int_int #[s47.val] w49 fun e51 w52 => ∃ s53 : Sl, e51 = .returned (s53.val) ∧
 R38 w52 ∧
 ∃ a54 : Addr, s40.ptr = some a54 ∧ 0 ≤ n35 ∧ n35 < (s40.len : Int) ∧
 wrOk w52 (Addr.add (Addr.add a54 (Int.toNat n35 * 4)) 2) 1 ∧ ∀ w55 : World, w55 = stW w52 (Addr.add (Addr.add a54 (Int.toNat n35 * 4)) 2) 0 [s50.val] →
 R38 w55 ∧
 ∃ a56 : Addr, s41.ptr = some a56 ∧ 0 ≤ n35 ∧ n35 < (s41.len : Int) ∧
 wrOk w55 (Addr.add (Addr.add a56 (Int.toNat n35 * 4)) 3) 1 ∧ ∀ w57 : World, w57 = stW w55 (Addr.add (Addr.add a56 (Int.toNat n35 * 4)) 3) 0 [s53.val] →
 I1 (wr (n35 + (1 : Int))) w57 ∧ μ1 (wr (n35 + (1 : Int))) w57 < μ1 n35 w34)
 (∃ n58 n59 : Int, ∃ n60 n61 n62 : Int, ∃ s63 s64 : Sl, ∃ n65 : Int, ∃ s66 : Sl, w34.cell? ⟨b10, 0, none⟩ = some (.int .i64 n58) ∧ w34.cell? ⟨b10, 1, none⟩ = some (.int .i64 n59) ∧ w34.cell? ⟨b10, 2, none⟩ = some (.int .i64 n60) ∧ w34.cell? ⟨b10, 3, none⟩ = some (.int .i64 n61) ∧ w34.cell? ⟨b10, 4, none⟩ = some (.int .i64 n62) ∧ w34.cell? ⟨b10, 5, none⟩ = some (s63.val) ∧ w34.cell? ⟨b10, 6, none⟩ = some (s64.val) ∧ w34.cell? ⟨b10, 7, none⟩ = some (.int .i64 n65) ∧ w34.cell? ⟨b10, 8, none⟩ = some (s66.val) ∧
 wrOk w34 ⟨b12, 0, none⟩ 9 ∧ ∀ w67 : World, w67 = stW w34 ⟨b12, 0, none⟩ 0 [.int .i64 n58, .int .i64 n59, .int .i64 n60, .int .i64 n61, .int .i64 n62, s63.val, s64.val, .int .i64 n65, s66.val] →
 ∃ r68 r69 : Int, ∃ r70 r71 r72 : Int, ∃ r73 r74 : Sl, ∃ r75 : Int, ∃ r76 : Sl, w67.cell? ⟨b12, 0, none⟩ = some (.int .i64 r68) ∧ w67.cell? ⟨b12, 1, none⟩ = some (.int .i64 r69) ∧ w67.cell? ⟨b12, 2, none⟩ = some (.int .i64 r70) ∧ w67.cell? ⟨b12, 3, none⟩ = some (.int .i64 r71) ∧ w67.cell? ⟨b12, 4, none⟩ = some (.int .i64 r72) ∧ w67.cell? ⟨b12, 5, none⟩ = some (r73.val) ∧ w67.cell? ⟨b12, 6, none⟩ = some (r74.val) ∧ w67.cell? ⟨b12, 7, none⟩ = some (.int .i64 r75) ∧ w67.cell? ⟨b12, 8, none⟩ = some (r76.val) ∧
 K (.agg #[.int .i64 r68, .int .i64 r69, .int .i64 r70, .int .i64 r71, .int .i64 r72, r73.val, r74.val, .int .i64 r75, r76.val]) w67)
def slots_own_an : An := ⟨[(3, [(19, .int .i64)])], [(1, (10, .st 0 (.st 1 (.st 3 (.st 4 (.st 6 (.st 7 (.ef 2 (.st 9 (.ef 5 (.ef 8 .done))))))))), 5)), (5, (23, .st 0 (.st 1 (.st 2 (.st 3 (.st 4 (.st 5 (.st 6 (.st 7 (.st 8 (.st 9 (.st 10 (.st 11 (.st 13 (.st 14 (.st 15 (.st 16 (.st 17 (.st 18 (.ef 12 (.ef 19 (.st 20 (.st 21 (.ef 22 .done)))))))))))))))))))))), 15))], []⟩
theorem slots_own_lift {t1 : Int} {t2 : Int} {t3 : Int} {t4 : Int} {t5 : Int} {t6 : Sl} {t7 : Sl} {t8 : Int} {t9 : Sl} {w : World} {K : Value → World → Prop} (h : slots_own_sh t1 t2 t3 t4 t5 t6 t7 t8 t9 w K) : Calls Tryz.prog fn_slots_own #[.agg #[.int .i64 t1, .int .i64 t2, .int .i64 t3, .int .i64 t4, .int .i64 t5, t6.val, t7.val, .int .i64 t8, t9.val]] w fun e w' => ∃ v, e = .returned v ∧ K v w' :=
   lift_calls (A := slots_own_an) (c := bodyOf Tryz.f94) (args := [.agg #[.int .i64 t1, .int .i64 t2, .int .i64 t3, .int .i64 t4, .int .i64 t5, t6.val, t7.val, .int .i64 t8, t9.val]]) orc orc_wide Tryz.func94 (by kernel_rfl) (by kernel_rfl) (Eq.mp (by kernel_rfl : slots_own_sh t1 t2 t3 t4 t5 t6 t7 t8 t9 w K = wpc orc Tryz.f94.ntmps slots_own_an (bodyOf Tryz.f94) (argl 0 [.agg #[.int .i64 t1, .int .i64 t2, .int .i64 t3, .int .i64 t4, .int .i64 t5, t6.val, t7.val, .int .i64 t8, t9.val]]) w (retQ orc Tryz.f94.results.toList K)) h)

def slots_allot_sh (t1 : Int) (t2 : Int) (t3 : Int) (t4 : Int) (t5 : Int) (t6 : Sl) (t7 : Sl) (t8 : Int) (t9 : Sl) (w : World) (K : Value → World → Prop) : Prop :=
 ∀ (b10 : Nat) (w11 : World), b10 = w.heap.size → w11 = World.alloc w (.cells #[.int .i64 t1, .int .i64 t2, .int .i64 t3, .int .i64 t4, .int .i64 t5, t6.val, t7.val, .int .i64 t8, t9.val] T_api_Trace) →
 ∃ n12 n13 : Int, ∃ n14 n15 n16 : Int, ∃ s17 s18 : Sl, ∃ n19 : Int, ∃ s20 : Sl, w11.cell? ⟨b10, 0, none⟩ = some (.int .i64 n12) ∧ w11.cell? ⟨b10, 1, none⟩ = some (.int .i64 n13) ∧ w11.cell? ⟨b10, 2, none⟩ = some (.int .i64 n14) ∧ w11.cell? ⟨b10, 3, none⟩ = some (.int .i64 n15) ∧ w11.cell? ⟨b10, 4, none⟩ = some (.int .i64 n16) ∧ w11.cell? ⟨b10, 5, none⟩ = some (s17.val) ∧ w11.cell? ⟨b10, 6, none⟩ = some (s18.val) ∧ w11.cell? ⟨b10, 7, none⟩ = some (.int .i64 n19) ∧ w11.cell? ⟨b10, 8, none⟩ = some (s20.val) ∧
 Calls Tryz.prog fn_slots_lives #[.agg #[.int .i64 n12, .int .i64 n13, .int .i64 n14, .int .i64 n15, .int .i64 n16, s17.val, s18.val, .int .i64 n19, s20.val]] w11 fun e21 w22 => ∃ s23 : Sl, e21 = .returned (s23.val) ∧
 ∃ s24 : Sl, w22.cell? ⟨b10, 5, none⟩ = some (s24.val) ∧
 ∃ s25 : Sl, ∃ w26 : World, (Instr.makeSlice T_sl_int (.int .i64 (s24.len : Int)) (.int .i64 (s24.len : Int))).run Tryz.prog w22 = .ok s25.val w26 ∧
 ∃ s27 : Sl, w26.cell? ⟨b10, 5, none⟩ = some (s27.val) ∧
 ∃ (I1 : Sl → Int → World → Prop) (μ1 : Sl → Int → World → Nat), I1 (⟨none, 0, 0⟩ : Sl) (0 : Int) w26 ∧ ∀ (until46 : Sl) (n29 : Int) (w28 : World), I1 until46 n29 w28 →
 brB (decide (n29 < (s27.len : Int)))
 (∃ J9 : Sl → World → Prop, (∀ (until66 : Sl) (w65 : World), J9 until66 w65 →
 I1 until66 (wr (n29 + (1 : Int))) w65 ∧ μ1 until66 (wr (n29 + (1 : Int))) w65 < μ1 until46 n29 w28) ∧
 ∃ a30 : Addr, s27.ptr = some a30 ∧ 0 ≤ n29 ∧ n29 < (s27.len : Int) ∧
 ∃ n31 n32 : Int, ∃ n33 n34 n35 : Int, w28.cell? (Addr.add a30 (Int.toNat n29 * 5)) = some (.int .i64 n31) ∧ w28.cell? (Addr.add (Addr.add a30 (Int.toNat n29 * 5)) 1) = some (.int .i64 n32) ∧ w28.cell? (Addr.add (Addr.add a30 (Int.toNat n29 * 5)) 2) = some (.int .i64 n33) ∧ w28.cell? (Addr.add (Addr.add a30 (Int.toNat n29 * 5)) 3) = some (.int .i64 n34) ∧ w28.cell? (Addr.add (Addr.add a30 (Int.toNat n29 * 5)) 4) = some (.int .i64 n35) ∧
 ∀ (b36 : Nat) (w37 : World), b36 = w28.heap.size → w37 = World.alloc w28 (.cells #[.int .i64 (0 : Int)] T_int) →
 ∀ (b38 : Nat) (w39 : World), b38 = w37.heap.size → w39 = World.alloc w37 (.cells #[.int .i64 (0 : Int), .int .i64 (0 : Int), .int .i64 (0 : Int), .int .i64 (0 : Int), .int .i64 (0 : Int)] T_api_Ins) →
 wrOk w39 ⟨b36, 0, none⟩ 1 ∧ ∀ w40 : World, w40 = stW w39 ⟨b36, 0, none⟩ 0 [.int .i64 n29] →
 wrOk w40 ⟨b38, 0, none⟩ 5 ∧ ∀ w41 : World, w41 = stW w40 ⟨b38, 0, none⟩ 0 [.int .i64 n31, .int .i64 n32, .int .i64 n33, .int .i64 n34, .int .i64 n35] →
 ∃ n42 : Int, w41.cell? ⟨b38, 0, none⟩ = some (.int .i64 n42) ∧
 Calls Tryz.prog fn_ir_Gives #[.int .i64 n42] w41 fun e43 w44 => ∃ b45 : Bool, e43 = .returned (.bool b45) ∧
 brB (!b45)
 (J9 until46 w44)
 (Calls Tryz.prog fn_slices_IndexFunc_sl_int_int #[until46.val, .func (.func fn_slots_allot_1) #[] #[.pointer (some ⟨b36, 0, none⟩)]] w44 fun e47 w48 => ∃ n49 : Int, e47 = .returned (.int .i64 n49) ∧
 ∃ J15 : Sl → Int → World → Prop, (∀ (until55 : Sl) (r56 : Int) (w54 : World), J15 until55 r56 w54 →
 ∃ n57 : Int, w54.cell? ⟨b36, 0, none⟩ = some (.int .i64 n57) ∧
 ∃ a58 : Addr, s23.ptr = some a58 ∧ 0 ≤ n57 ∧ n57 < (s23.len : Int) ∧
 ∃ n59 : Int, w54.cell? (Addr.add a58 (Int.toNat n57 * 1)) = some (.int .i64 n59) ∧
 ∃ a60 : Addr, until55.ptr = some a60 ∧ 0 ≤ r56 ∧ r56 < (until55.len : Int) ∧
 wrOk w54 (Addr.add a60 (Int.toNat r56 * 1)) 1 ∧ ∀ w61 : World, w61 = stW w54 (Addr.add a60 (Int.toNat r56 * 1)) 0 [.int .i64 n59] →
 ∃ n62 : Int, w61.cell? ⟨b36, 0, none⟩ = some (.int .i64 n62) ∧
 ∃ a63 : Addr, s25.ptr = some a63 ∧ 0 ≤ n62 ∧ n62 < (s25.len : Int) ∧
 wrOk w61 (Addr.add a63 (Int.toNat n62 * 1)) 1 ∧ ∀ w64 : World, w64 = stW w61 (Addr.add a63 (Int.toNat n62 * 1)) 0 [.int .i64 r56] →
 J9 until55 w64) ∧
 brB (decide (n49 < (0 : Int)))
 (∀ (b50 : Nat) (w51 : World), b50 = w48.heap.size → w51 = World.alloc w48 (.cells #[.int .i64 (0 : Int)] T_int) →
 ∃ s52 : Sl, ∃ w53 : World, (Builtin.append_ #[T_sl_int, T_sl_int] T_sl_int #[until46.val, .slice (some ⟨b50, 0, none⟩) 1 1]).run Tryz.prog w51 = .ok (s52.val) w53 ∧
 J15 s52 (until46.len : Int) w53)
 (J15 until46 n49 w48)))
 (K (.tuple #[s25.val, .int .i64 (until46.len : Int)]) w28)
def slots_allot_an : An := ⟨[(5, [(6, .sl), (19, .int .i64)])], [], [(12, [(6, .sl), (9, .int .i64)]), (14, [(6, .sl)])]⟩
theorem slots_allot_lift {t1 : Int} {t2 : Int} {t3 : Int} {t4 : Int} {t5 : Int} {t6 : Sl} {t7 : Sl} {t8 : Int} {t9 : Sl} {w : World} {K : Value → World → Prop} (h : slots_allot_sh t1 t2 t3 t4 t5 t6 t7 t8 t9 w K) : Calls Tryz.prog fn_slots_allot #[.agg #[.int .i64 t1, .int .i64 t2, .int .i64 t3, .int .i64 t4, .int .i64 t5, t6.val, t7.val, .int .i64 t8, t9.val]] w fun e w' => ∃ v, e = .returned v ∧ K v w' :=
   lift_calls (A := slots_allot_an) (c := bodyOf Tryz.f95) (args := [.agg #[.int .i64 t1, .int .i64 t2, .int .i64 t3, .int .i64 t4, .int .i64 t5, t6.val, t7.val, .int .i64 t8, t9.val]]) orc orc_wide Tryz.func95 (by kernel_rfl) (by kernel_rfl) (Eq.mp (by kernel_rfl : slots_allot_sh t1 t2 t3 t4 t5 t6 t7 t8 t9 w K = wpc orc Tryz.f95.ntmps slots_allot_an (bodyOf Tryz.f95) (argl 0 [.agg #[.int .i64 t1, .int .i64 t2, .int .i64 t3, .int .i64 t4, .int .i64 t5, t6.val, t7.val, .int .i64 t8, t9.val]]) w (retQ orc Tryz.f95.results.toList K)) h)

def slots_Code_Through_sh (c_1 : Nat) (s2 : Int) (s3 : Int) (s4 : Sl) (s5 : Sl) (s6 : Sl) (s7 : ByteArray) (s8 : ByteArray) (s9 : Int) (s10 : Int) (s11 : Int) (watched12 : Sl) (w : World) (K : Value → World → Prop) : Prop :=
 ∀ (b13 : Nat) (w14 : World), b13 = w.heap.size → w14 = World.alloc w (.cells #[.int .i64 s2, .int .i64 s3, s4.val, s5.val, s6.val, .string s7, .string s8, .int .i64 s9, .int .i64 s10, .int .i64 s11] T_api_State) →
 ∀ (b15 : Nat) (w16 : World), b15 = w14.heap.size → w16 = World.alloc w14 (.cells #[.int .i64 (0 : Int), .int .i64 (0 : Int), .slice none 0 0, .slice none 0 0, .slice none 0 0, .string (bs []), .string (bs []), .int .i64 (0 : Int), .int .i64 (0 : Int), .int .i64 (0 : Int)] T_api_State) →
 ∀ (b17 : Nat) (w18 : World), b17 = w16.heap.size → w18 = World.alloc w16 (.cells #[.int .i64 (0 : Int), .int .i64 (0 : Int), .bool false] T_eval_Done) →
 ∀ w19 : World, w19 = World.drew w18 →
 ∃ S20 : World → Prop, S20 w19 ∧
 ∃ n21 n22 : Int, ∃ n23 n24 n25 : Int, ∃ s26 s27 : Sl, ∃ n28 : Int, ∃ s29 : Sl, held S20 ⟨c_1, 0, none⟩ (.int .i64 n21) ∧ held S20 ⟨c_1, 1, none⟩ (.int .i64 n22) ∧ held S20 ⟨c_1, 2, none⟩ (.int .i64 n23) ∧ held S20 ⟨c_1, 3, none⟩ (.int .i64 n24) ∧ held S20 ⟨c_1, 4, none⟩ (.int .i64 n25) ∧ held S20 ⟨c_1, 5, none⟩ (s26.val) ∧ held S20 ⟨c_1, 6, none⟩ (s27.val) ∧ held S20 ⟨c_1, 7, none⟩ (.int .i64 n28) ∧ held S20 ⟨c_1, 8, none⟩ (s29.val) ∧
 ∃ n30 n31 : Int, ∃ s32 s33 s34 : Sl, ∃ t35 t36 : ByteArray, ∃ n37 n38 n39 : Int, held S20 ⟨b13, 0, none⟩ (.int .i64 n30) ∧ held S20 ⟨b13, 1, none⟩ (.int .i64 n31) ∧ held S20 ⟨b13, 2, none⟩ (s32.val) ∧ held S20 ⟨b13, 3, none⟩ (s33.val) ∧ held S20 ⟨b13, 4, none⟩ (s34.val) ∧ held S20 ⟨b13, 5, none⟩ (.string t35) ∧ held S20 ⟨b13, 6, none⟩ (.string t36) ∧ held S20 ⟨b13, 7, none⟩ (.int .i64 n37) ∧ held S20 ⟨b13, 8, none⟩ (.int .i64 n38) ∧ held S20 ⟨b13, 9, none⟩ (.int .i64 n39) ∧
 ∃ s40 : Sl, held S20 ⟨c_1, 9, none⟩ (s40.val) ∧
 ∃ n41 : Int, held S20 ⟨c_1, 10, none⟩ (.int .i64 n41) ∧
 Calls Tryz.prog fn_eval_Through #[.agg #[.int .i64 n21, .int .i64 n22, .int .i64 n23, .int .i64 n24, .int .i64 n25, s26.val, s27.val, .int .i64 n28, s29.val], .agg #[.int .i64 n30, .int .i64 n31, s32.val, s33.val, s34.val, .string t35, .string t36, .int .i64 n37, .int .i64 n38, .int .i64 n39], s40.val, .int .i64 n41, watched12.val] w19 fun e42 w43 => ∃ n44 n45 : Int, ∃ s46 s47 s48 : Sl, ∃ t49 t50 : ByteArray, ∃ n51 n52 : Int, ∃ n53 n54 n55 : Int, ∃ b56 : Bool, ∃ n57 : Int, e42 = .returned (.tuple #[.agg #[.int .i64 n44, .int .i64 n45, s46.val, s47.val, s48.val, .string t49, .string t50, .int .i64 n51, .int .i64 n52, .int .i64 n53], .agg #[.int .i64 n54, .int .i64 n55, .bool b56], .int .i64 n57]) ∧
 S20 w43 ∧
 wrOk w43 ⟨b15, 0, none⟩ 10 ∧ ∀ w58 : World, w58 = stW w43 ⟨b15, 0, none⟩ 0 [.int .i64 n44, .int .i64 n45, s46.val, s47.val, s48.val, .string t49, .string t50, .int .i64 n51, .int .i64 n52, .int .i64 n53] →
 wrOk w58 ⟨b17, 0, none⟩ 3 ∧ ∀ w59 : World, w59 = stW w58 ⟨b17, 0, none⟩ 0 [.int .i64 n54, .int .i64 n55, .bool b56] →
 ∃ r60 r61 : Int, ∃ r62 r63 r64 : Sl, ∃ r65 r66 : ByteArray, ∃ r67 r68 r69 : Int, w59.cell? ⟨b15, 0, none⟩ = some (.int .i64 r60) ∧ w59.cell? ⟨b15, 1, none⟩ = some (.int .i64 r61) ∧ w59.cell? ⟨b15, 2, none⟩ = some (r62.val) ∧ w59.cell? ⟨b15, 3, none⟩ = some (r63.val) ∧ w59.cell? ⟨b15, 4, none⟩ = some (r64.val) ∧ w59.cell? ⟨b15, 5, none⟩ = some (.string r65) ∧ w59.cell? ⟨b15, 6, none⟩ = some (.string r66) ∧ w59.cell? ⟨b15, 7, none⟩ = some (.int .i64 r67) ∧ w59.cell? ⟨b15, 8, none⟩ = some (.int .i64 r68) ∧ w59.cell? ⟨b15, 9, none⟩ = some (.int .i64 r69) ∧
 ∃ r70 r71 : Int, ∃ r72 : Bool, w59.cell? ⟨b17, 0, none⟩ = some (.int .i64 r70) ∧ w59.cell? ⟨b17, 1, none⟩ = some (.int .i64 r71) ∧ w59.cell? ⟨b17, 2, none⟩ = some (.bool r72) ∧
 K (.tuple #[.agg #[.int .i64 r60, .int .i64 r61, r62.val, r63.val, r64.val, .string r65, .string r66, .int .i64 r67, .int .i64 r68, .int .i64 r69], .agg #[.int .i64 r70, .int .i64 r71, .bool r72], .int .i64 n57]) w59
def slots_Code_Through_an : An := ⟨[], [(3, (18, .st 0 (.st 1 (.st 2 (.st 3 (.st 4 (.st 5 (.st 6 (.st 7 (.st 8 (.st 9 (.st 10 (.st 11 (.st 12 (.st 13 (.ef 14 (.st 15 (.st 16 (.st 17 .done))))))))))))))))), 1))], []⟩
theorem slots_Code_Through_lift {c_1 : Nat} {s2 : Int} {s3 : Int} {s4 : Sl} {s5 : Sl} {s6 : Sl} {s7 : ByteArray} {s8 : ByteArray} {s9 : Int} {s10 : Int} {s11 : Int} {watched12 : Sl} {w : World} {K : Value → World → Prop} (h : slots_Code_Through_sh c_1 s2 s3 s4 s5 s6 s7 s8 s9 s10 s11 watched12 w K) : Calls Tryz.prog fn_slots_Code_Through #[.pointer (some ⟨c_1, 0, none⟩), .agg #[.int .i64 s2, .int .i64 s3, s4.val, s5.val, s6.val, .string s7, .string s8, .int .i64 s9, .int .i64 s10, .int .i64 s11], watched12.val] w fun e w' => ∃ v, e = .returned v ∧ K v w' :=
   lift_calls (A := slots_Code_Through_an) (c := bodyOf Tryz.f97) (args := [.pointer (some ⟨c_1, 0, none⟩), .agg #[.int .i64 s2, .int .i64 s3, s4.val, s5.val, s6.val, .string s7, .string s8, .int .i64 s9, .int .i64 s10, .int .i64 s11], watched12.val]) orc orc_wide Tryz.func97 (by kernel_rfl) (by kernel_rfl) (Eq.mp (by kernel_rfl : slots_Code_Through_sh c_1 s2 s3 s4 s5 s6 s7 s8 s9 s10 s11 watched12 w K = wpc orc Tryz.f97.ntmps slots_Code_Through_an (bodyOf Tryz.f97) (argl 0 [.pointer (some ⟨c_1, 0, none⟩), .agg #[.int .i64 s2, .int .i64 s3, s4.val, s5.val, s6.val, .string s7, .string s8, .int .i64 s9, .int .i64 s10, .int .i64 s11], watched12.val]) w (retQ orc Tryz.f97.results.toList K)) h)

def slots_lives_sh (t1 : Int) (t2 : Int) (t3 : Int) (t4 : Int) (t5 : Int) (t6 : Sl) (t7 : Sl) (t8 : Int) (t9 : Sl) (w : World) (K : Value → World → Prop) : Prop :=
 ∀ (b10 : Nat) (w11 : World), b10 = w.heap.size → w11 = World.alloc w (.cells #[.int .i64 t1, .int .i64 t2, .int .i64 t3, .int .i64 t4, .int .i64 t5, t6.val, t7.val, .int .i64 t8, t9.val] T_api_Trace) →
 ∃ s12 : Sl, w11.cell? ⟨b10, 5, none⟩ = some (s12.val) ∧
 ∃ s13 : Sl, ∃ w14 : World, (Instr.makeSlice T_sl_int (.int .i64 (s12.len : Int)) (.int .i64 (s12.len : Int))).run Tryz.prog w11 = .ok s13.val w14 ∧
 ∀ (b15 : Nat) (w16 : World), b15 = w14.heap.size → w16 = World.alloc w14 (.cells #[.slice none 0 0] T_sl_int) →
 wrOk w16 ⟨b15, 0, none⟩ 1 ∧ ∀ w17 : World, w17 = stW w16 ⟨b15, 0, none⟩ 0 [s13.val] →
 ∀ (b18 : Nat) (w19 : World), b18 = w17.heap.size → w19 = World.alloc w17 (.cells #[.nilFunc] T_func_int_sl_int) →
 wrOk w19 ⟨b18, 0, none⟩ 1 ∧ ∀ w20 : World, w20 = stW w19 ⟨b18, 0, none⟩ 0 [.func (.func fn_slots_lives_1) #[] #[.pointer (some ⟨b15, 0, none⟩)]] →
 ∃ s21 : Sl, w20.cell? ⟨b10, 5, none⟩ = some (s21.val) ∧
 ∃ (I1 : Int → World → Prop) (μ1 : Int → World → Nat), I1 (0 : Int) w20 ∧ ∀ (n23 : Int) (w22 : World), I1 n23 w22 →
 brB (decide (n23 < (s21.len : Int)))
 (∃ a24 : Addr, s21.ptr = some a24 ∧ 0 ≤ n23 ∧ n23 < (s21.len : Int) ∧
 ∃ n25 n26 : Int, ∃ n27 n28 n29 : Int, w22.cell? (Addr.add a24 (Int.toNat n23 * 5)) = some (.int .i64 n25) ∧ w22.cell? (Addr.add (Addr.add a24 (Int.toNat n23 * 5)) 1) = some (.int .i64 n26) ∧ w22.cell? (Addr.add (Addr.add a24 (Int.toNat n23 * 5)) 2) = some (.int .i64 n27) ∧ w22.cell? (Addr.add (Addr.add a24 (Int.toNat n23 * 5)) 3) = some (.int .i64 n28) ∧ w22.cell? (Addr.add (Addr.add a24 (Int.toNat n23 * 5)) 4) = some (.int .i64 n29) ∧
 ∀ (b30 : Nat) (w31 : World), b30 = w22.heap.size → w31 = World.alloc w22 (.cells #[.int .i64 (0 : Int), .int .i64 (0 : Int), .int .i64 (0 : Int), .int .i64 (0 : Int), .int .i64 (0 : Int)] T_api_Ins) →
 wrOk w31 ⟨b30, 0, none⟩ 5 ∧ ∀ w32 : World, w32 = stW w31 ⟨b30, 0, none⟩ 0 [.int .i64 n25, .int .i64 n26, .int .i64 n27, .int .i64 n28, .int .i64 n29] →
 ∃ s33 : Sl, w32.cell? ⟨b15, 0, none⟩ = some (s33.val) ∧
 ∃ a34 : Addr, s33.ptr = some a34 ∧ 0 ≤ n23 ∧ n23 < (s33.len : Int) ∧
 wrOk w32 (Addr.add a34 (Int.toNat n23 * 1)) 1 ∧ ∀ w35 : World, w35 = stW w32 (Addr.add a34 (Int.toNat n23 * 1)) 0 [.int .i64 n23] →
 ∀ w36 : World, w36 = World.drew w35 →
 ∃ S37 : World → Prop, S37 w36 ∧
 ∃ v38 : Value, held S37 ⟨b18, 0, none⟩ (v38) ∧
 ∃ n39 n40 : Int, ∃ n41 n42 n43 : Int, held S37 ⟨b30, 0, none⟩ (.int .i64 n39) ∧ held S37 ⟨b30, 1, none⟩ (.int .i64 n40) ∧ held S37 ⟨b30, 2, none⟩ (.int .i64 n41) ∧ held S37 ⟨b30, 3, none⟩ (.int .i64 n42) ∧ held S37 ⟨b30, 4, none⟩ (.int .i64 n43) ∧
 Calls Tryz.prog fn_ir_Uses #[.agg #[.int .i64 n39, .int .i64 n40, .int .i64 n41, .int .i64 n42, .int .i64 n43]] w36 fun e44 w45 => ∃ s46 : Sl, e44 = .returned (s46.val) ∧
 S37 w45 ∧
 ∃ (g47 : FuncId) (fs48 cs49 : Array Value), (v38 : Value) = .func (.func g47) fs48 cs49 ∧ (∀ args w, (callFunc g47 args).run Tryz.prog w = .ok (.enter g47 args) w) ∧
 Calls Tryz.prog g47 (((fs48.toList ++ [(.int .i64 n23 : Value)]) ++ [(s46.val : Value)]) ++ cs49.toList).toArray w45 fun e50 w51 => e50 = .returned (.tuple #[]) ∧
 ∃ n52 n53 : Int, ∃ n54 n55 n56 : Int, w51.cell? ⟨b30, 0, none⟩ = some (.int .i64 n52) ∧ w51.cell? ⟨b30, 1, none⟩ = some (.int .i64 n53) ∧ w51.cell? ⟨b30, 2, none⟩ = some (.int .i64 n54) ∧ w51.cell? ⟨b30, 3, none⟩ = some (.int .i64 n55) ∧ w51.cell? ⟨b30, 4, none⟩ = some (.int .i64 n56) ∧
 Calls Tryz.prog fn_ir_Outs #[.agg #[.int .i64 n52, .int .i64 n53, .int .i64 n54, .int .i64 n55, .int .i64 n56]] w51 fun e57 w58 => ∃ s59 : Sl, e57 = .returned (s59.val) ∧
 ∃ (I2 : Int → World → Prop) (μ2 : Int → World → Nat), I2 (0 : Int) w58 ∧ ∀ (n61 : Int) (w60 : World), I2 n61 w60 →
 brB (decide (n61 < (s59.len : Int)))
 (∃ a62 : Addr, s59.ptr = some a62 ∧ 0 ≤ n61 ∧ n61 < (s59.len : Int) ∧
 ∃ n63 : Int, w60.cell? (Addr.add a62 (Int.toNat n61 * 1)) = some (.int .i64 n63) ∧
 ∃ (g64 : FuncId) (fs65 cs66 : Array Value), (.func (.func fn_slots_lives_2) #[] #[.pointer (some ⟨b18, 0, none⟩), .pointer (some ⟨b10, 0, none⟩)] : Value) = .func (.func g64) fs65 cs66 ∧ (∀ args w, (callFunc g64 args).run Tryz.prog w = .ok (.enter g64 args) w) ∧
 Calls Tryz.prog g64 (((fs65.toList ++ [(.int .i64 n23 : Value)]) ++ [(.int .i64 n63 : Value)]) ++ cs66.toList).toArray w60 fun e67 w68 => e67 = .returned (.tuple #[]) ∧
 I2 (wr (n61 + (1 : Int))) w68 ∧ μ2 (wr (n61 + (1 : Int))) w68 < μ2 n61 w60)
 (I1 (wr (n23 + (1 : Int))) w60 ∧ μ1 (wr (n23 + (1 : Int))) w60 < μ1 n23 w22))
 (∃ s69 : Sl, w22.cell? ⟨b10, 5, none⟩ = some (s69.val) ∧
 ∃ n70 : Int, w22.cell? ⟨b10, 7, none⟩ = some (.int .i64 n70) ∧
 ∃ (g71 : FuncId) (fs72 cs73 : Array Value), (.func (.func fn_slots_lives_2) #[] #[.pointer (some ⟨b18, 0, none⟩), .pointer (some ⟨b10, 0, none⟩)] : Value) = .func (.func g71) fs72 cs73 ∧ (∀ args w, (callFunc g71 args).run Tryz.prog w = .ok (.enter g71 args) w) ∧
 Calls Tryz.prog g71 (((fs72.toList ++ [(.int .i64 (wr ((s69.len : Int) - (1 : Int))) : Value)]) ++ [(.int .i64 n70 : Value)]) ++ cs73.toList).toArray w22 fun e74 w75 => e74 = .returned (.tuple #[]) ∧
 ∃ s76 : Sl, w75.cell? ⟨b15, 0, none⟩ = some (s76.val) ∧
 K (s76.val) w75)
def slots_lives_an : An := ⟨[(5, [(19, .int .i64)]), (10, [(36, .int .i64)])], [(8, (4, .st 0 (.st 1 (.st 2 (.ef 3 .done))), 1))], []⟩
theorem slots_lives_lift {t1 : Int} {t2 : Int} {t3 : Int} {t4 : Int} {t5 : Int} {t6 : Sl} {t7 : Sl} {t8 : Int} {t9 : Sl} {w : World} {K : Value → World → Prop} (h : slots_lives_sh t1 t2 t3 t4 t5 t6 t7 t8 t9 w K) : Calls Tryz.prog fn_slots_lives #[.agg #[.int .i64 t1, .int .i64 t2, .int .i64 t3, .int .i64 t4, .int .i64 t5, t6.val, t7.val, .int .i64 t8, t9.val]] w fun e w' => ∃ v, e = .returned v ∧ K v w' :=
   lift_calls (A := slots_lives_an) (c := bodyOf Tryz.f127) (args := [.agg #[.int .i64 t1, .int .i64 t2, .int .i64 t3, .int .i64 t4, .int .i64 t5, t6.val, t7.val, .int .i64 t8, t9.val]]) orc orc_wide Tryz.func127 (by kernel_rfl) (by kernel_rfl) (Eq.mp (by kernel_rfl : slots_lives_sh t1 t2 t3 t4 t5 t6 t7 t8 t9 w K = wpc orc Tryz.f127.ntmps slots_lives_an (bodyOf Tryz.f127) (argl 0 [.agg #[.int .i64 t1, .int .i64 t2, .int .i64 t3, .int .i64 t4, .int .i64 t5, t6.val, t7.val, .int .i64 t8, t9.val]]) w (retQ orc Tryz.f127.results.toList K)) h)

def slots_allot_1_sh (end_1 : Int) (c2 : Nat) (w : World) (K : Value → World → Prop) : Prop :=
 ∃ n3 : Int, w.cell? ⟨c2, 0, none⟩ = some (.int .i64 n3) ∧
 K (.bool (decide (end_1 < n3))) w
def slots_allot_1_an : An := ⟨[], [], []⟩
theorem slots_allot_1_lift {end_1 : Int} {c2 : Nat} {w : World} {K : Value → World → Prop} (h : slots_allot_1_sh end_1 c2 w K) : Calls Tryz.prog fn_slots_allot_1 #[.int .i64 end_1, .pointer (some ⟨c2, 0, none⟩)] w fun e w' => ∃ v, e = .returned v ∧ K v w' :=
   lift_calls (A := slots_allot_1_an) (c := bodyOf Tryz.f130) (args := [.int .i64 end_1, .pointer (some ⟨c2, 0, none⟩)]) orc orc_wide Tryz.func130 (by kernel_rfl) (by kernel_rfl) (Eq.mp (by kernel_rfl : slots_allot_1_sh end_1 c2 w K = wpc orc Tryz.f130.ntmps slots_allot_1_an (bodyOf Tryz.f130) (argl 0 [.int .i64 end_1, .pointer (some ⟨c2, 0, none⟩)]) w (retQ orc Tryz.f130.results.toList K)) h)

def slots_lives_1_sh (at_1 : Int) (l_2 : Sl) (c3 : Nat) (w : World) (K : Value → World → Prop) : Prop :=
 ∃ (I1 : Int → World → Prop) (μ1 : Int → World → Nat), I1 (0 : Int) w ∧ ∀ (n5 : Int) (w4 : World), I1 n5 w4 →
 brB (decide (n5 < (l_2.len : Int)))
 (∃ a6 : Addr, l_2.ptr = some a6 ∧ 0 ≤ n5 ∧ n5 < (l_2.len : Int) ∧
 ∃ n7 : Int, w4.cell? (Addr.add a6 (Int.toNat n5 * 1)) = some (.int .i64 n7) ∧
 ∀ w8 : World, w8 = World.drew w4 →
 ∃ s9 : Sl, held (Lw w8) ⟨c3, 0, none⟩ (s9.val) ∧
 ∃ s10 : Sl, held (Lw w8) ⟨c3, 0, none⟩ (s10.val) ∧
 ∃ a11 : Addr, s10.ptr = some a11 ∧ 0 ≤ n7 ∧ n7 < (s10.len : Int) ∧
 ∃ n12 : Int, held (Lw w8) (Addr.add a11 (Int.toNat n7 * 1)) (.int .i64 n12) ∧
 ∃ a13 : Addr, s9.ptr = some a13 ∧ 0 ≤ n7 ∧ n7 < (s9.len : Int) ∧
 wrOk w8 (Addr.add a13 (Int.toNat n7 * 1)) 1 ∧ ∀ w14 : World, w14 = stW w8 (Addr.add a13 (Int.toNat n7 * 1)) 0 [.int .i64 (imax n12 at_1)] →
 I1 (wr (n5 + (1 : Int))) w14 ∧ μ1 (wr (n5 + (1 : Int))) w14 < μ1 n5 w4)
 (K (.tuple #[]) w4)
def slots_lives_1_an : An := ⟨[(1, [(9, .int .i64)])], [(3, (9, .st 0 (.st 1 (.st 2 (.st 3 (.st 4 (.st 5 (.st 6 (.st 7 (.st 8 .done)))))))), 0))], []⟩
theorem slots_lives_1_lift {at_1 : Int} {l_2 : Sl} {c3 : Nat} {w : World} {K : Value → World → Prop} (h : slots_lives_1_sh at_1 l_2 c3 w K) : Calls Tryz.prog fn_slots_lives_1 #[.int .i64 at_1, l_2.val, .pointer (some ⟨c3, 0, none⟩)] w fun e w' => ∃ v, e = .returned v ∧ K v w' :=
   lift_calls (A := slots_lives_1_an) (c := bodyOf Tryz.f143) (args := [.int .i64 at_1, l_2.val, .pointer (some ⟨c3, 0, none⟩)]) orc orc_wide Tryz.func143 (by kernel_rfl) (by kernel_rfl) (Eq.mp (by kernel_rfl : slots_lives_1_sh at_1 l_2 c3 w K = wpc orc Tryz.f143.ntmps slots_lives_1_an (bodyOf Tryz.f143) (argl 0 [.int .i64 at_1, l_2.val, .pointer (some ⟨c3, 0, none⟩)]) w (retQ orc Tryz.f143.results.toList K)) h)

def slots_lives_2_sh (at_1 : Int) (x_2 : Int) (c3 : Nat) (c4 : Nat) (w : World) (K : Value → World → Prop) : Prop :=
 ∀ w5 : World, w5 = World.drew w →
 ∃ v6 : Value, held (Lw w5) ⟨c3, 0, none⟩ (v6) ∧
 ∃ s7 : Sl, held (Lw w5) ⟨c4, 6, none⟩ (s7.val) ∧
 ∃ a8 : Addr, s7.ptr = some a8 ∧ 0 ≤ x_2 ∧ x_2 < (s7.len : Int) ∧
 ∃ s9 : Sl, held (Lw w5) (Addr.add (Addr.add a8 (Int.toNat x_2 * 4)) 2) (s9.val) ∧
 ∃ (g10 : FuncId) (fs11 cs12 : Array Value), (v6 : Value) = .func (.func g10) fs11 cs12 ∧ (∀ args w, (callFunc g10 args).run Tryz.prog w = .ok (.enter g10 args) w) ∧
 Calls Tryz.prog g10 (((fs11.toList ++ [(.int .i64 at_1 : Value)]) ++ [(s9.val : Value)]) ++ cs12.toList).toArray w5 fun e13 w14 => e13 = .returned (.tuple #[]) ∧
 ∀ w15 : World, w15 = World.drew w14 →
 ∃ v16 : Value, held (Lw w15) ⟨c3, 0, none⟩ (v16) ∧
 ∃ s17 : Sl, held (Lw w15) ⟨c4, 6, none⟩ (s17.val) ∧
 ∃ a18 : Addr, s17.ptr = some a18 ∧ 0 ≤ x_2 ∧ x_2 < (s17.len : Int) ∧
 ∃ s19 : Sl, held (Lw w15) (Addr.add (Addr.add a18 (Int.toNat x_2 * 4)) 3) (s19.val) ∧
 ∃ (g20 : FuncId) (fs21 cs22 : Array Value), (v16 : Value) = .func (.func g20) fs21 cs22 ∧ (∀ args w, (callFunc g20 args).run Tryz.prog w = .ok (.enter g20 args) w) ∧
 Calls Tryz.prog g20 (((fs21.toList ++ [(.int .i64 at_1 : Value)]) ++ [(s19.val : Value)]) ++ cs22.toList).toArray w15 fun e23 w24 => e23 = .returned (.tuple #[]) ∧
 K (.tuple #[]) w24
def slots_lives_2_an : An := ⟨[], [(0, (8, .st 0 (.st 1 (.st 2 (.st 3 (.st 4 (.st 5 (.st 6 (.st 7 .done))))))), 0)), (1, (8, .st 0 (.st 1 (.st 2 (.st 3 (.st 4 (.st 5 (.st 6 (.st 7 .done))))))), 0))], []⟩
theorem slots_lives_2_lift {at_1 : Int} {x_2 : Int} {c3 : Nat} {c4 : Nat} {w : World} {K : Value → World → Prop} (h : slots_lives_2_sh at_1 x_2 c3 c4 w K) : Calls Tryz.prog fn_slots_lives_2 #[.int .i64 at_1, .int .i64 x_2, .pointer (some ⟨c3, 0, none⟩), .pointer (some ⟨c4, 0, none⟩)] w fun e w' => ∃ v, e = .returned v ∧ K v w' :=
   lift_calls (A := slots_lives_2_an) (c := bodyOf Tryz.f144) (args := [.int .i64 at_1, .int .i64 x_2, .pointer (some ⟨c3, 0, none⟩), .pointer (some ⟨c4, 0, none⟩)]) orc orc_wide Tryz.func144 (by kernel_rfl) (by kernel_rfl) (Eq.mp (by kernel_rfl : slots_lives_2_sh at_1 x_2 c3 c4 w K = wpc orc Tryz.f144.ntmps slots_lives_2_an (bodyOf Tryz.f144) (argl 0 [.int .i64 at_1, .int .i64 x_2, .pointer (some ⟨c3, 0, none⟩), .pointer (some ⟨c4, 0, none⟩)]) w (retQ orc Tryz.f144.results.toList K)) h)

def slots_Code_Run_nil_sh (s1 : Int) (s2 : Int) (s3 : Sl) (s4 : Sl) (s5 : Sl) (s6 : ByteArray) (s7 : ByteArray) (s8 : Int) (s9 : Int) (s10 : Int) (watched11 : Sl) (w : World) (K : Value → World → Prop) : Prop :=
 ∀ (b12 : Nat) (w13 : World), b12 = w.heap.size → w13 = World.alloc w (.cells #[.int .i64 s1, .int .i64 s2, s3.val, s4.val, s5.val, .string s6, .string s7, .int .i64 s8, .int .i64 s9, .int .i64 s10] T_api_State) →
 ∀ (b14 : Nat) (w15 : World), b14 = w13.heap.size → w15 = World.alloc w13 (.cells #[.int .i64 (0 : Int), .int .i64 (0 : Int), .slice none 0 0, .slice none 0 0, .slice none 0 0, .string (bs []), .string (bs []), .int .i64 (0 : Int), .int .i64 (0 : Int), .int .i64 (0 : Int)] T_api_State) →
 ∀ (b16 : Nat) (w17 : World), b16 = w15.heap.size → w17 = World.alloc w15 (.cells #[.int .i64 (0 : Int), .int .i64 (0 : Int), .bool false] T_eval_Done) →
 ∃ n18 n19 : Int, ∃ s20 s21 s22 : Sl, ∃ t23 t24 : ByteArray, ∃ n25 n26 n27 : Int, w17.cell? ⟨b12, 0, none⟩ = some (.int .i64 n18) ∧ w17.cell? ⟨b12, 1, none⟩ = some (.int .i64 n19) ∧ w17.cell? ⟨b12, 2, none⟩ = some (s20.val) ∧ w17.cell? ⟨b12, 3, none⟩ = some (s21.val) ∧ w17.cell? ⟨b12, 4, none⟩ = some (s22.val) ∧ w17.cell? ⟨b12, 5, none⟩ = some (.string t23) ∧ w17.cell? ⟨b12, 6, none⟩ = some (.string t24) ∧ w17.cell? ⟨b12, 7, none⟩ = some (.int .i64 n25) ∧ w17.cell? ⟨b12, 8, none⟩ = some (.int .i64 n26) ∧ w17.cell? ⟨b12, 9, none⟩ = some (.int .i64 n27) ∧
 Calls Tryz.prog fn_slots_Code_Through #[.pointer none, .agg #[.int .i64 n18, .int .i64 n19, s20.val, s21.val, s22.val, .string t23, .string t24, .int .i64 n25, .int .i64 n26, .int .i64 n27], watched11.val] w17 fun e28 w29 => ∃ n30 n31 : Int, ∃ s32 s33 s34 : Sl, ∃ t35 t36 : ByteArray, ∃ n37 n38 : Int, ∃ n39 n40 n41 : Int, ∃ b42 : Bool, ∃ n43 : Int, e28 = .returned (.tuple #[.agg #[.int .i64 n30, .int .i64 n31, s32.val, s33.val, s34.val, .string t35, .string t36, .int .i64 n37, .int .i64 n38, .int .i64 n39], .agg #[.int .i64 n40, .int .i64 n41, .bool b42], .int .i64 n43]) ∧
 ∀ (b44 : Nat) (w45 : World), b44 = w29.heap.size → w45 = World.alloc w29 (.cells #[.int .i64 (0 : Int), .int .i64 (0 : Int), .slice none 0 0, .slice none 0 0, .slice none 0 0, .string (bs []), .string (bs []), .int .i64 (0 : Int), .int .i64 (0 : Int), .int .i64 (0 : Int)] T_api_State) →
 ∀ (b46 : Nat) (w47 : World), b46 = w45.heap.size → w47 = World.alloc w45 (.cells #[.int .i64 (0 : Int), .int .i64 (0 : Int), .bool false] T_eval_Done) →
 wrOk w47 ⟨b44, 0, none⟩ 10 ∧ ∀ w48 : World, w48 = stW w47 ⟨b44, 0, none⟩ 0 [.int .i64 n30, .int .i64 n31, s32.val, s33.val, s34.val, .string t35, .string t36, .int .i64 n37, .int .i64 n38, .int .i64 n39] →
 wrOk w48 ⟨b46, 0, none⟩ 3 ∧ ∀ w49 : World, w49 = stW w48 ⟨b46, 0, none⟩ 0 [.int .i64 n40, .int .i64 n41, .bool b42] →
 ∀ w50 : World, w50 = World.drew w49 →
 ∃ S51 : World → Prop, S51 w50 ∧
 ∃ n52 n53 : Int, ∃ s54 s55 s56 : Sl, ∃ t57 t58 : ByteArray, ∃ n59 n60 n61 : Int, held S51 ⟨b44, 0, none⟩ (.int .i64 n52) ∧ held S51 ⟨b44, 1, none⟩ (.int .i64 n53) ∧ held S51 ⟨b44, 2, none⟩ (s54.val) ∧ held S51 ⟨b44, 3, none⟩ (s55.val) ∧ held S51 ⟨b44, 4, none⟩ (s56.val) ∧ held S51 ⟨b44, 5, none⟩ (.string t57) ∧ held S51 ⟨b44, 6, none⟩ (.string t58) ∧ held S51 ⟨b44, 7, none⟩ (.int .i64 n59) ∧ held S51 ⟨b44, 8, none⟩ (.int .i64 n60) ∧ held S51 ⟨b44, 9, none⟩ (.int .i64 n61) ∧
 ∃ n62 n63 : Int, ∃ b64 : Bool, held S51 ⟨b46, 0, none⟩ (.int .i64 n62) ∧ held S51 ⟨b46, 1, none⟩ (.int .i64 n63) ∧ held S51 ⟨b46, 2, none⟩ (.bool b64) ∧
 wrOk w50 ⟨b14, 0, none⟩ 10 ∧ ∀ w65 : World, w65 = stW w50 ⟨b14, 0, none⟩ 0 [.int .i64 n52, .int .i64 n53, s54.val, s55.val, s56.val, .string t57, .string t58, .int .i64 n59, .int .i64 n60, .int .i64 n61] →
 S51 w65 ∧
 wrOk w65 ⟨b16, 0, none⟩ 3 ∧ ∀ w66 : World, w66 = stW w65 ⟨b16, 0, none⟩ 0 [.int .i64 n62, .int .i64 n63, .bool b64] →
 ∃ r67 r68 : Int, ∃ r69 r70 r71 : Sl, ∃ r72 r73 : ByteArray, ∃ r74 r75 r76 : Int, w66.cell? ⟨b14, 0, none⟩ = some (.int .i64 r67) ∧ w66.cell? ⟨b14, 1, none⟩ = some (.int .i64 r68) ∧ w66.cell? ⟨b14, 2, none⟩ = some (r69.val) ∧ w66.cell? ⟨b14, 3, none⟩ = some (r70.val) ∧ w66.cell? ⟨b14, 4, none⟩ = some (r71.val) ∧ w66.cell? ⟨b14, 5, none⟩ = some (.string r72) ∧ w66.cell? ⟨b14, 6, none⟩ = some (.string r73) ∧ w66.cell? ⟨b14, 7, none⟩ = some (.int .i64 r74) ∧ w66.cell? ⟨b14, 8, none⟩ = some (.int .i64 r75) ∧ w66.cell? ⟨b14, 9, none⟩ = some (.int .i64 r76) ∧
 ∃ r77 r78 : Int, ∃ r79 : Bool, w66.cell? ⟨b16, 0, none⟩ = some (.int .i64 r77) ∧ w66.cell? ⟨b16, 1, none⟩ = some (.int .i64 r78) ∧ w66.cell? ⟨b16, 2, none⟩ = some (.bool r79) ∧
 K (.tuple #[.agg #[.int .i64 r67, .int .i64 r68, r69.val, r70.val, r71.val, .string r72, .string r73, .int .i64 r74, .int .i64 r75, .int .i64 r76], .agg #[.int .i64 r77, .int .i64 r78, .bool r79]]) w66
def slots_Code_Run_nil_an : An := ⟨[], [(2, (3, .st 0 (.st 1 (.ef 2 .done)), 1))], []⟩
theorem slots_Code_Run_nil_lift {s1 : Int} {s2 : Int} {s3 : Sl} {s4 : Sl} {s5 : Sl} {s6 : ByteArray} {s7 : ByteArray} {s8 : Int} {s9 : Int} {s10 : Int} {watched11 : Sl} {w : World} {K : Value → World → Prop} (h : slots_Code_Run_nil_sh s1 s2 s3 s4 s5 s6 s7 s8 s9 s10 watched11 w K) : Calls Tryz.prog fn_slots_Code_Run #[.pointer none, .agg #[.int .i64 s1, .int .i64 s2, s3.val, s4.val, s5.val, .string s6, .string s7, .int .i64 s8, .int .i64 s9, .int .i64 s10], watched11.val] w fun e w' => ∃ v, e = .returned v ∧ K v w' :=
   lift_calls (A := slots_Code_Run_nil_an) (c := bodyOf Tryz.f36) (args := [.pointer none, .agg #[.int .i64 s1, .int .i64 s2, s3.val, s4.val, s5.val, .string s6, .string s7, .int .i64 s8, .int .i64 s9, .int .i64 s10], watched11.val]) orc orc_wide Tryz.func36 (by kernel_rfl) (by kernel_rfl) (Eq.mp (by kernel_rfl : slots_Code_Run_nil_sh s1 s2 s3 s4 s5 s6 s7 s8 s9 s10 watched11 w K = wpc orc Tryz.f36.ntmps slots_Code_Run_nil_an (bodyOf Tryz.f36) (argl 0 [.pointer none, .agg #[.int .i64 s1, .int .i64 s2, s3.val, s4.val, s5.val, .string s6, .string s7, .int .i64 s8, .int .i64 s9, .int .i64 s10], watched11.val]) w (retQ orc Tryz.f36.results.toList K)) h)

def slots_Code_Through_nil_sh (s1 : Int) (s2 : Int) (s3 : Sl) (s4 : Sl) (s5 : Sl) (s6 : ByteArray) (s7 : ByteArray) (s8 : Int) (s9 : Int) (s10 : Int) (watched11 : Sl) (w : World) (K : Value → World → Prop) : Prop :=
 ∀ (b12 : Nat) (w13 : World), b12 = w.heap.size → w13 = World.alloc w (.cells #[.int .i64 s1, .int .i64 s2, s3.val, s4.val, s5.val, .string s6, .string s7, .int .i64 s8, .int .i64 s9, .int .i64 s10] T_api_State) →
 ∀ (b14 : Nat) (w15 : World), b14 = w13.heap.size → w15 = World.alloc w13 (.cells #[.int .i64 (0 : Int), .int .i64 (0 : Int), .slice none 0 0, .slice none 0 0, .slice none 0 0, .string (bs []), .string (bs []), .int .i64 (0 : Int), .int .i64 (0 : Int), .int .i64 (0 : Int)] T_api_State) →
 ∀ (b16 : Nat) (w17 : World), b16 = w15.heap.size → w17 = World.alloc w15 (.cells #[.int .i64 (0 : Int), .int .i64 (0 : Int), .bool false] T_eval_Done) →
 ∃ n18 n19 : Int, ∃ s20 s21 s22 : Sl, ∃ t23 t24 : ByteArray, ∃ n25 n26 n27 : Int, w17.cell? ⟨b12, 0, none⟩ = some (.int .i64 n18) ∧ w17.cell? ⟨b12, 1, none⟩ = some (.int .i64 n19) ∧ w17.cell? ⟨b12, 2, none⟩ = some (s20.val) ∧ w17.cell? ⟨b12, 3, none⟩ = some (s21.val) ∧ w17.cell? ⟨b12, 4, none⟩ = some (s22.val) ∧ w17.cell? ⟨b12, 5, none⟩ = some (.string t23) ∧ w17.cell? ⟨b12, 6, none⟩ = some (.string t24) ∧ w17.cell? ⟨b12, 7, none⟩ = some (.int .i64 n25) ∧ w17.cell? ⟨b12, 8, none⟩ = some (.int .i64 n26) ∧ w17.cell? ⟨b12, 9, none⟩ = some (.int .i64 n27) ∧
 Calls Tryz.prog fn_inner_Copy #[.agg #[.int .i64 n18, .int .i64 n19, s20.val, s21.val, s22.val, .string t23, .string t24, .int .i64 n25, .int .i64 n26, .int .i64 n27]] w17 fun e28 w29 => ∃ n30 n31 : Int, ∃ s32 s33 s34 : Sl, ∃ t35 t36 : ByteArray, ∃ n37 n38 n39 : Int, e28 = .returned (.agg #[.int .i64 n30, .int .i64 n31, s32.val, s33.val, s34.val, .string t35, .string t36, .int .i64 n37, .int .i64 n38, .int .i64 n39]) ∧
 wrOk w29 ⟨b14, 0, none⟩ 10 ∧ ∀ w40 : World, w40 = stW w29 ⟨b14, 0, none⟩ 0 [.int .i64 n30, .int .i64 n31, s32.val, s33.val, s34.val, .string t35, .string t36, .int .i64 n37, .int .i64 n38, .int .i64 n39] →
 wrOk w40 ⟨b16, 0, none⟩ 3 ∧ ∀ w41 : World, w41 = stW w40 ⟨b16, 0, none⟩ 0 [.int .i64 (-1 : Int), .int .i64 (0 : Int), .bool false] →
 ∃ r42 r43 : Int, ∃ r44 r45 r46 : Sl, ∃ r47 r48 : ByteArray, ∃ r49 r50 r51 : Int, w41.cell? ⟨b14, 0, none⟩ = some (.int .i64 r42) ∧ w41.cell? ⟨b14, 1, none⟩ = some (.int .i64 r43) ∧ w41.cell? ⟨b14, 2, none⟩ = some (r44.val) ∧ w41.cell? ⟨b14, 3, none⟩ = some (r45.val) ∧ w41.cell? ⟨b14, 4, none⟩ = some (r46.val) ∧ w41.cell? ⟨b14, 5, none⟩ = some (.string r47) ∧ w41.cell? ⟨b14, 6, none⟩ = some (.string r48) ∧ w41.cell? ⟨b14, 7, none⟩ = some (.int .i64 r49) ∧ w41.cell? ⟨b14, 8, none⟩ = some (.int .i64 r50) ∧ w41.cell? ⟨b14, 9, none⟩ = some (.int .i64 r51) ∧
 ∃ r52 r53 : Int, ∃ r54 : Bool, w41.cell? ⟨b16, 0, none⟩ = some (.int .i64 r52) ∧ w41.cell? ⟨b16, 1, none⟩ = some (.int .i64 r53) ∧ w41.cell? ⟨b16, 2, none⟩ = some (.bool r54) ∧
 K (.tuple #[.agg #[.int .i64 r42, .int .i64 r43, r44.val, r45.val, r46.val, .string r47, .string r48, .int .i64 r49, .int .i64 r50, .int .i64 r51], .agg #[.int .i64 r52, .int .i64 r53, .bool r54], .int .i64 (-1 : Int)]) w41
def slots_Code_Through_nil_an : An := ⟨[], [], []⟩
theorem slots_Code_Through_nil_lift {s1 : Int} {s2 : Int} {s3 : Sl} {s4 : Sl} {s5 : Sl} {s6 : ByteArray} {s7 : ByteArray} {s8 : Int} {s9 : Int} {s10 : Int} {watched11 : Sl} {w : World} {K : Value → World → Prop} (h : slots_Code_Through_nil_sh s1 s2 s3 s4 s5 s6 s7 s8 s9 s10 watched11 w K) : Calls Tryz.prog fn_slots_Code_Through #[.pointer none, .agg #[.int .i64 s1, .int .i64 s2, s3.val, s4.val, s5.val, .string s6, .string s7, .int .i64 s8, .int .i64 s9, .int .i64 s10], watched11.val] w fun e w' => ∃ v, e = .returned v ∧ K v w' :=
   lift_calls (A := slots_Code_Through_nil_an) (c := bodyOf Tryz.f97) (args := [.pointer none, .agg #[.int .i64 s1, .int .i64 s2, s3.val, s4.val, s5.val, .string s6, .string s7, .int .i64 s8, .int .i64 s9, .int .i64 s10], watched11.val]) orc orc_wide Tryz.func97 (by kernel_rfl) (by kernel_rfl) (Eq.mp (by kernel_rfl : slots_Code_Through_nil_sh s1 s2 s3 s4 s5 s6 s7 s8 s9 s10 watched11 w K = wpc orc Tryz.f97.ntmps slots_Code_Through_nil_an (bodyOf Tryz.f97) (argl 0 [.pointer none, .agg #[.int .i64 s1, .int .i64 s2, s3.val, s4.val, s5.val, .string s6, .string s7, .int .i64 s8, .int .i64 s9, .int .i64 s10], watched11.val]) w (retQ orc Tryz.f97.results.toList K)) h)

def slots_Code_Registers_nil_sh  (w : World) (K : Value → World → Prop) : Prop :=
 K (.int .i64 (0 : Int)) w
def slots_Code_Registers_nil_an : An := ⟨[], [], []⟩
theorem slots_Code_Registers_nil_lift  {w : World} {K : Value → World → Prop} (h : slots_Code_Registers_nil_sh  w K) : Calls Tryz.prog fn_slots_Code_Registers #[.pointer none] w fun e w' => ∃ v, e = .returned v ∧ K v w' :=
   lift_calls (A := slots_Code_Registers_nil_an) (c := bodyOf Tryz.f35) (args := [.pointer none]) orc orc_wide Tryz.func35 (by kernel_rfl) (by kernel_rfl) (Eq.mp (by kernel_rfl : slots_Code_Registers_nil_sh  w K = wpc orc Tryz.f35.ntmps slots_Code_Registers_nil_an (bodyOf Tryz.f35) (argl 0 [.pointer none]) w (retQ orc Tryz.f35.results.toList K)) h)

def slots_Code_Len_nil_sh  (w : World) (K : Value → World → Prop) : Prop :=
 K (.int .i64 (0 : Int)) w
def slots_Code_Len_nil_an : An := ⟨[], [], []⟩
theorem slots_Code_Len_nil_lift  {w : World} {K : Value → World → Prop} (h : slots_Code_Len_nil_sh  w K) : Calls Tryz.prog fn_slots_Code_Len #[.pointer none] w fun e w' => ∃ v, e = .returned v ∧ K v w' :=
   lift_calls (A := slots_Code_Len_nil_an) (c := bodyOf Tryz.f34) (args := [.pointer none]) orc orc_wide Tryz.func34 (by kernel_rfl) (by kernel_rfl) (Eq.mp (by kernel_rfl : slots_Code_Len_nil_sh  w K = wpc orc Tryz.f34.ntmps slots_Code_Len_nil_an (bodyOf Tryz.f34) (argl 0 [.pointer none]) w (retQ orc Tryz.f34.results.toList K)) h)

end Go.Proofs.YtblmoilneiffgaaGreat

/- Functions of Hollowaylaw15, read without their frames; that each is enough. Printed by a program of mine (wip/lift/gen.py). -/
set_option maxRecDepth 100000
namespace Go.Proofs.YtblmoilneiffgaaGreat
open Go.RowKit

end Go.Proofs.YtblmoilneiffgaaGreat

/- Functions of Hollowaylaw20, read without their frames; that each is enough. Printed by a program of mine (wip/lift/gen.py). -/
set_option maxRecDepth 100000
namespace Go.Proofs.YtblmoilneiffgaaGreat
open Go.RowKit

def hollowaylaw20_SlotsRun_sh (t1 : Int) (t2 : Int) (t3 : Int) (t4 : Int) (t5 : Int) (t6 : Sl) (t7 : Sl) (t8 : Int) (t9 : Sl) (s10 : Int) (s11 : Int) (s12 : Sl) (s13 : Sl) (s14 : Sl) (s15 : ByteArray) (s16 : ByteArray) (s17 : Int) (s18 : Int) (s19 : Int) (watched20 : Sl) (more21 : Int) (at_22 : Bool) (w : World) (K : Value → World → Prop) : Prop :=
 ∀ (b23 : Nat) (w24 : World), b23 = w.heap.size → w24 = World.alloc w (.cells #[.int .i64 t1, .int .i64 t2, .int .i64 t3, .int .i64 t4, .int .i64 t5, t6.val, t7.val, .int .i64 t8, t9.val] T_api_Trace) →
 ∀ (b25 : Nat) (w26 : World), b25 = w24.heap.size → w26 = World.alloc w24 (.cells #[.int .i64 s10, .int .i64 s11, s12.val, s13.val, s14.val, .string s15, .string s16, .int .i64 s17, .int .i64 s18, .int .i64 s19] T_api_State) →
 ∃ J3 : Bool → World → Prop, (∀ (b56 : Bool) (w55 : World), J3 b56 w55 →
 brB b56
 (Calls Tryz.prog fn_hollowaylaw20_alive #[] w55 fun e57 w58 => ∃ b59 : Bool, e57 = .returned (.bool b59) ∧
 K (.bool b59) w58)
 (∃ n60 n61 : Int, ∃ n62 n63 n64 : Int, ∃ s65 s66 : Sl, ∃ n67 : Int, ∃ s68 : Sl, w55.cell? ⟨b23, 0, none⟩ = some (.int .i64 n60) ∧ w55.cell? ⟨b23, 1, none⟩ = some (.int .i64 n61) ∧ w55.cell? ⟨b23, 2, none⟩ = some (.int .i64 n62) ∧ w55.cell? ⟨b23, 3, none⟩ = some (.int .i64 n63) ∧ w55.cell? ⟨b23, 4, none⟩ = some (.int .i64 n64) ∧ w55.cell? ⟨b23, 5, none⟩ = some (s65.val) ∧ w55.cell? ⟨b23, 6, none⟩ = some (s66.val) ∧ w55.cell? ⟨b23, 7, none⟩ = some (.int .i64 n67) ∧ w55.cell? ⟨b23, 8, none⟩ = some (s68.val) ∧
 Calls Tryz.prog fn_hollowaybook_LentTrace #[.agg #[.int .i64 n60, .int .i64 n61, .int .i64 n62, .int .i64 n63, .int .i64 n64, s65.val, s66.val, .int .i64 n67, s68.val]] w55 fun e69 w70 => ∃ n71 n72 : Int, ∃ n73 n74 n75 : Int, ∃ s76 s77 : Sl, ∃ n78 : Int, ∃ s79 : Sl, e69 = .returned (.agg #[.int .i64 n71, .int .i64 n72, .int .i64 n73, .int .i64 n74, .int .i64 n75, s76.val, s77.val, .int .i64 n78, s79.val]) ∧
 ∀ (b80 : Nat) (w81 : World), b80 = w70.heap.size → w81 = World.alloc w70 (.cells #[.int .i64 (0 : Int), .int .i64 (0 : Int), .int .i64 (0 : Int), .int .i64 (0 : Int), .int .i64 (0 : Int), .slice none 0 0, .slice none 0 0, .int .i64 (0 : Int), .slice none 0 0] T_api_Trace) →
 wrOk w81 ⟨b80, 0, none⟩ 9 ∧ ∀ w82 : World, w82 = stW w81 ⟨b80, 0, none⟩ 0 [.int .i64 n71, .int .i64 n72, .int .i64 n73, .int .i64 n74, .int .i64 n75, s76.val, s77.val, .int .i64 n78, s79.val] →
 ∃ n83 n84 : Int, ∃ n85 n86 n87 : Int, ∃ s88 s89 : Sl, ∃ n90 : Int, ∃ s91 : Sl, w82.cell? ⟨b23, 0, none⟩ = some (.int .i64 n83) ∧ w82.cell? ⟨b23, 1, none⟩ = some (.int .i64 n84) ∧ w82.cell? ⟨b23, 2, none⟩ = some (.int .i64 n85) ∧ w82.cell? ⟨b23, 3, none⟩ = some (.int .i64 n86) ∧ w82.cell? ⟨b23, 4, none⟩ = some (.int .i64 n87) ∧ w82.cell? ⟨b23, 5, none⟩ = some (s88.val) ∧ w82.cell? ⟨b23, 6, none⟩ = some (s89.val) ∧ w82.cell? ⟨b23, 7, none⟩ = some (.int .i64 n90) ∧ w82.cell? ⟨b23, 8, none⟩ = some (s91.val) ∧
 Calls Tryz.prog fn_hollowayref15_Right #[.agg #[.int .i64 n83, .int .i64 n84, .int .i64 n85, .int .i64 n86, .int .i64 n87, s88.val, s89.val, .int .i64 n90, s91.val]] w82 fun e92 w93 => ∃ b94 : Bool, e92 = .returned (.bool b94) ∧
 brB (!b94)
 (∃ n95 n96 : Int, ∃ n97 n98 n99 : Int, ∃ s100 s101 : Sl, ∃ n102 : Int, ∃ s103 : Sl, w93.cell? ⟨b80, 0, none⟩ = some (.int .i64 n95) ∧ w93.cell? ⟨b80, 1, none⟩ = some (.int .i64 n96) ∧ w93.cell? ⟨b80, 2, none⟩ = some (.int .i64 n97) ∧ w93.cell? ⟨b80, 3, none⟩ = some (.int .i64 n98) ∧ w93.cell? ⟨b80, 4, none⟩ = some (.int .i64 n99) ∧ w93.cell? ⟨b80, 5, none⟩ = some (s100.val) ∧ w93.cell? ⟨b80, 6, none⟩ = some (s101.val) ∧ w93.cell? ⟨b80, 7, none⟩ = some (.int .i64 n102) ∧ w93.cell? ⟨b80, 8, none⟩ = some (s103.val) ∧
 Calls Tryz.prog fn_slots_Make #[.agg #[.int .i64 n95, .int .i64 n96, .int .i64 n97, .int .i64 n98, .int .i64 n99, s100.val, s101.val, .int .i64 n102, s103.val], .int .i64 (200 : Int)] w93 fun e104 w105 => ∃ p106 : Option Addr, ∃ b107 : Bool, e104 = .returned (.tuple #[.pointer p106, .bool b107]) ∧
 brB (Option.isNone p106)
 (brB (!b107)
 (∃ n108 n109 : Int, ∃ n110 n111 n112 : Int, ∃ s113 s114 : Sl, ∃ n115 : Int, ∃ s116 : Sl, w105.cell? ⟨b80, 0, none⟩ = some (.int .i64 n108) ∧ w105.cell? ⟨b80, 1, none⟩ = some (.int .i64 n109) ∧ w105.cell? ⟨b80, 2, none⟩ = some (.int .i64 n110) ∧ w105.cell? ⟨b80, 3, none⟩ = some (.int .i64 n111) ∧ w105.cell? ⟨b80, 4, none⟩ = some (.int .i64 n112) ∧ w105.cell? ⟨b80, 5, none⟩ = some (s113.val) ∧ w105.cell? ⟨b80, 6, none⟩ = some (s114.val) ∧ w105.cell? ⟨b80, 7, none⟩ = some (.int .i64 n115) ∧ w105.cell? ⟨b80, 8, none⟩ = some (s116.val) ∧
 Calls Tryz.prog fn_slots_Least #[.agg #[.int .i64 n108, .int .i64 n109, .int .i64 n110, .int .i64 n111, .int .i64 n112, s113.val, s114.val, .int .i64 n115, s116.val]] w105 fun e117 w118 => ∃ n119 : Int, e117 = .returned (.int .i64 n119) ∧
 K (.bool (n119 == (0 : Int))) w118)
 (K (.bool false) w105))
 (K (.bool false) w105))
 (∃ n122 n123 : Int, ∃ n124 n125 n126 : Int, ∃ s127 s128 : Sl, ∃ n129 : Int, ∃ s130 : Sl, w93.cell? ⟨b23, 0, none⟩ = some (.int .i64 n122) ∧ w93.cell? ⟨b23, 1, none⟩ = some (.int .i64 n123) ∧ w93.cell? ⟨b23, 2, none⟩ = some (.int .i64 n124) ∧ w93.cell? ⟨b23, 3, none⟩ = some (.int .i64 n125) ∧ w93.cell? ⟨b23, 4, none⟩ = some (.int .i64 n126) ∧ w93.cell? ⟨b23, 5, none⟩ = some (s127.val) ∧ w93.cell? ⟨b23, 6, none⟩ = some (s128.val) ∧ w93.cell? ⟨b23, 7, none⟩ = some (.int .i64 n129) ∧ w93.cell? ⟨b23, 8, none⟩ = some (s130.val) ∧
 Calls Tryz.prog fn_hollowayref15_Least #[.agg #[.int .i64 n122, .int .i64 n123, .int .i64 n124, .int .i64 n125, .int .i64 n126, s127.val, s128.val, .int .i64 n129, s130.val]] w93 fun e131 w132 => ∃ n133 : Int, e131 = .returned (.int .i64 n133) ∧
 ∃ n134 n135 : Int, ∃ n136 n137 n138 : Int, ∃ s139 s140 : Sl, ∃ n141 : Int, ∃ s142 : Sl, w132.cell? ⟨b80, 0, none⟩ = some (.int .i64 n134) ∧ w132.cell? ⟨b80, 1, none⟩ = some (.int .i64 n135) ∧ w132.cell? ⟨b80, 2, none⟩ = some (.int .i64 n136) ∧ w132.cell? ⟨b80, 3, none⟩ = some (.int .i64 n137) ∧ w132.cell? ⟨b80, 4, none⟩ = some (.int .i64 n138) ∧ w132.cell? ⟨b80, 5, none⟩ = some (s139.val) ∧ w132.cell? ⟨b80, 6, none⟩ = some (s140.val) ∧ w132.cell? ⟨b80, 7, none⟩ = some (.int .i64 n141) ∧ w132.cell? ⟨b80, 8, none⟩ = some (s142.val) ∧
 Calls Tryz.prog fn_slots_Make #[.agg #[.int .i64 n134, .int .i64 n135, .int .i64 n136, .int .i64 n137, .int .i64 n138, s139.val, s140.val, .int .i64 n141, s142.val], .int .i64 (wr (n133 - (1 : Int)))] w132 fun e143 w144 => ∃ p145 : Option Addr, ∃ b146 : Bool, e143 = .returned (.tuple #[.pointer p145, .bool b146]) ∧
 ∃ n147 n148 : Int, ∃ n149 n150 n151 : Int, ∃ s152 s153 : Sl, ∃ n154 : Int, ∃ s155 : Sl, w144.cell? ⟨b80, 0, none⟩ = some (.int .i64 n147) ∧ w144.cell? ⟨b80, 1, none⟩ = some (.int .i64 n148) ∧ w144.cell? ⟨b80, 2, none⟩ = some (.int .i64 n149) ∧ w144.cell? ⟨b80, 3, none⟩ = some (.int .i64 n150) ∧ w144.cell? ⟨b80, 4, none⟩ = some (.int .i64 n151) ∧ w144.cell? ⟨b80, 5, none⟩ = some (s152.val) ∧ w144.cell? ⟨b80, 6, none⟩ = some (s153.val) ∧ w144.cell? ⟨b80, 7, none⟩ = some (.int .i64 n154) ∧ w144.cell? ⟨b80, 8, none⟩ = some (s155.val) ∧
 Calls Tryz.prog fn_slots_Make #[.agg #[.int .i64 n147, .int .i64 n148, .int .i64 n149, .int .i64 n150, .int .i64 n151, s152.val, s153.val, .int .i64 n154, s155.val], .int .i64 (wr (n133 + more21))] w144 fun e156 w157 => ∃ p158 : Option Addr, ∃ b159 : Bool, e156 = .returned (.tuple #[.pointer p158, .bool b159]) ∧
 ∃ J14 : Bool → World → Prop, (∀ (b227 : Bool) (w226 : World), J14 b227 w226 →
 brB b227
 (K (.bool false) w226)
 (∃ J16 : World → Prop, (∀ (w231 : World), J16  w231 →
 ∃ n232 n233 : Int, ∃ s234 s235 s236 : Sl, ∃ t237 t238 : ByteArray, ∃ n239 n240 n241 : Int, w231.cell? ⟨b25, 0, none⟩ = some (.int .i64 n232) ∧ w231.cell? ⟨b25, 1, none⟩ = some (.int .i64 n233) ∧ w231.cell? ⟨b25, 2, none⟩ = some (s234.val) ∧ w231.cell? ⟨b25, 3, none⟩ = some (s235.val) ∧ w231.cell? ⟨b25, 4, none⟩ = some (s236.val) ∧ w231.cell? ⟨b25, 5, none⟩ = some (.string t237) ∧ w231.cell? ⟨b25, 6, none⟩ = some (.string t238) ∧ w231.cell? ⟨b25, 7, none⟩ = some (.int .i64 n239) ∧ w231.cell? ⟨b25, 8, none⟩ = some (.int .i64 n240) ∧ w231.cell? ⟨b25, 9, none⟩ = some (.int .i64 n241) ∧
 ∀ (b242 : Nat) (w243 : World), b242 = w231.heap.size → w243 = World.alloc w231 (.cells #[.int .i64 (0 : Int), .int .i64 (0 : Int), .slice none 0 0, .slice none 0 0, .slice none 0 0, .string (bs []), .string (bs []), .int .i64 (0 : Int), .int .i64 (0 : Int), .int .i64 (0 : Int)] T_api_State) →
 ∀ (b244 : Nat) (w245 : World), b244 = w243.heap.size → w245 = World.alloc w243 (.cells #[.int .i64 (0 : Int), .int .i64 (0 : Int), .bool false] T_eval_Done) →
 wrOk w245 ⟨b242, 0, none⟩ 10 ∧ ∀ w246 : World, w246 = stW w245 ⟨b242, 0, none⟩ 0 [.int .i64 n232, .int .i64 n233, s234.val, s235.val, s236.val, .string t237, .string t238, .int .i64 n239, .int .i64 n240, .int .i64 n241] →
 wrOk w246 ⟨b244, 0, none⟩ 3 ∧ ∀ w247 : World, w247 = stW w246 ⟨b244, 0, none⟩ 0 [.int .i64 (-1 : Int), .int .i64 (0 : Int), .bool false] →
 ∃ J19 : World → Prop, (∀ (w325 : World), J19  w325 →
 ∃ n326 n327 : Int, ∃ s328 s329 s330 : Sl, ∃ t331 t332 : ByteArray, ∃ n333 n334 n335 : Int, w325.cell? ⟨b25, 0, none⟩ = some (.int .i64 n326) ∧ w325.cell? ⟨b25, 1, none⟩ = some (.int .i64 n327) ∧ w325.cell? ⟨b25, 2, none⟩ = some (s328.val) ∧ w325.cell? ⟨b25, 3, none⟩ = some (s329.val) ∧ w325.cell? ⟨b25, 4, none⟩ = some (s330.val) ∧ w325.cell? ⟨b25, 5, none⟩ = some (.string t331) ∧ w325.cell? ⟨b25, 6, none⟩ = some (.string t332) ∧ w325.cell? ⟨b25, 7, none⟩ = some (.int .i64 n333) ∧ w325.cell? ⟨b25, 8, none⟩ = some (.int .i64 n334) ∧ w325.cell? ⟨b25, 9, none⟩ = some (.int .i64 n335) ∧
 Calls Tryz.prog fn_hollowaybook_LentState #[.agg #[.int .i64 n326, .int .i64 n327, s328.val, s329.val, s330.val, .string t331, .string t332, .int .i64 n333, .int .i64 n334, .int .i64 n335]] w325 fun e336 w337 => ∃ n338 n339 : Int, ∃ s340 s341 s342 : Sl, ∃ t343 t344 : ByteArray, ∃ n345 n346 n347 : Int, e336 = .returned (.agg #[.int .i64 n338, .int .i64 n339, s340.val, s341.val, s342.val, .string t343, .string t344, .int .i64 n345, .int .i64 n346, .int .i64 n347]) ∧
 Calls Tryz.prog fn_hollowaybook_LentInts #[watched20.val] w337 fun e348 w349 => ∃ s350 : Sl, e348 = .returned (s350.val) ∧
 ∀ (b351 : Nat) (w352 : World), b351 = w349.heap.size → w352 = World.alloc w349 (.cells #[.int .i64 (0 : Int), .int .i64 (0 : Int), .slice none 0 0, .slice none 0 0, .slice none 0 0, .string (bs []), .string (bs []), .int .i64 (0 : Int), .int .i64 (0 : Int), .int .i64 (0 : Int)] T_api_State) →
 wrOk w352 ⟨b351, 0, none⟩ 10 ∧ ∀ w353 : World, w353 = stW w352 ⟨b351, 0, none⟩ 0 [.int .i64 n338, .int .i64 n339, s340.val, s341.val, s342.val, .string t343, .string t344, .int .i64 n345, .int .i64 n346, .int .i64 n347] →
 ∀ (b354 : Nat) (w355 : World), b354 = w353.heap.size → w355 = World.alloc w353 (.cells #[.slice none 0 0, .slice none 0 0, .slice none 0 0, .slice none 0 0, .slice none 0 0, .slice none 0 0, .slice none 0 0, .slice none 0 0, .slice none 0 0, .slice none 0 0, .slice none 0 0, .slice none 0 0] T_hollowaybook_Book) →
 ∃ (I1 : Int → World → Prop) (μ1 : Int → World → Nat), I1 (0 : Int) w355 ∧ ∀ (k357 : Int) (w356 : World), I1 k357 w356 →
 brB (decide (k357 < (2 : Int)))
 (∃ n358 n359 : Int, ∃ s360 s361 s362 : Sl, ∃ t363 t364 : ByteArray, ∃ n365 n366 n367 : Int, w356.cell? ⟨b351, 0, none⟩ = some (.int .i64 n358) ∧ w356.cell? ⟨b351, 1, none⟩ = some (.int .i64 n359) ∧ w356.cell? ⟨b351, 2, none⟩ = some (s360.val) ∧ w356.cell? ⟨b351, 3, none⟩ = some (s361.val) ∧ w356.cell? ⟨b351, 4, none⟩ = some (s362.val) ∧ w356.cell? ⟨b351, 5, none⟩ = some (.string t363) ∧ w356.cell? ⟨b351, 6, none⟩ = some (.string t364) ∧ w356.cell? ⟨b351, 7, none⟩ = some (.int .i64 n365) ∧ w356.cell? ⟨b351, 8, none⟩ = some (.int .i64 n366) ∧ w356.cell? ⟨b351, 9, none⟩ = some (.int .i64 n367) ∧
 Calls Tryz.prog fn_slots_Code_Run #[.pointer p158, .agg #[.int .i64 n358, .int .i64 n359, s360.val, s361.val, s362.val, .string t363, .string t364, .int .i64 n365, .int .i64 n366, .int .i64 n367], s350.val] w356 fun e368 w369 => ∃ n370 n371 : Int, ∃ s372 s373 s374 : Sl, ∃ t375 t376 : ByteArray, ∃ n377 n378 : Int, ∃ n379 n380 n381 : Int, ∃ b382 : Bool, e368 = .returned (.tuple #[.agg #[.int .i64 n370, .int .i64 n371, s372.val, s373.val, s374.val, .string t375, .string t376, .int .i64 n377, .int .i64 n378, .int .i64 n379], .agg #[.int .i64 n380, .int .i64 n381, .bool b382]]) ∧
 ∀ (b383 : Nat) (w384 : World), b383 = w369.heap.size → w384 = World.alloc w369 (.cells #[.int .i64 (0 : Int), .int .i64 (0 : Int), .slice none 0 0, .slice none 0 0, .slice none 0 0, .string (bs []), .string (bs []), .int .i64 (0 : Int), .int .i64 (0 : Int), .int .i64 (0 : Int)] T_api_State) →
 ∀ (b385 : Nat) (w386 : World), b385 = w384.heap.size → w386 = World.alloc w384 (.cells #[.int .i64 (0 : Int), .int .i64 (0 : Int), .bool false] T_eval_Done) →
 wrOk w386 ⟨b383, 0, none⟩ 10 ∧ ∀ w387 : World, w387 = stW w386 ⟨b383, 0, none⟩ 0 [.int .i64 n370, .int .i64 n371, s372.val, s373.val, s374.val, .string t375, .string t376, .int .i64 n377, .int .i64 n378, .int .i64 n379] →
 wrOk w387 ⟨b385, 0, none⟩ 3 ∧ ∀ w388 : World, w388 = stW w387 ⟨b385, 0, none⟩ 0 [.int .i64 n380, .int .i64 n381, .bool b382] →
 ∃ n389 n390 : Int, ∃ s391 s392 s393 : Sl, ∃ t394 t395 : ByteArray, ∃ n396 n397 n398 : Int, w388.cell? ⟨b383, 0, none⟩ = some (.int .i64 n389) ∧ w388.cell? ⟨b383, 1, none⟩ = some (.int .i64 n390) ∧ w388.cell? ⟨b383, 2, none⟩ = some (s391.val) ∧ w388.cell? ⟨b383, 3, none⟩ = some (s392.val) ∧ w388.cell? ⟨b383, 4, none⟩ = some (s393.val) ∧ w388.cell? ⟨b383, 5, none⟩ = some (.string t394) ∧ w388.cell? ⟨b383, 6, none⟩ = some (.string t395) ∧ w388.cell? ⟨b383, 7, none⟩ = some (.int .i64 n396) ∧ w388.cell? ⟨b383, 8, none⟩ = some (.int .i64 n397) ∧ w388.cell? ⟨b383, 9, none⟩ = some (.int .i64 n398) ∧
 Calls Tryz.prog fn_hollowaybook_Book_State #[.pointer (some ⟨b354, 0, none⟩), .agg #[.int .i64 n389, .int .i64 n390, s391.val, s392.val, s393.val, .string t394, .string t395, .int .i64 n396, .int .i64 n397, .int .i64 n398]] w388 fun e399 w400 => e399 = .returned (.tuple #[]) ∧
 ∃ J31 : Bool → World → Prop, (∀ (b433 : Bool) (w432 : World), J31 b433 w432 →
 brB b433
 (K (.bool false) w432)
 (I1 (wr (k357 + (1 : Int))) w432 ∧ μ1 (wr (k357 + (1 : Int))) w432 < μ1 k357 w356)) ∧
 ∃ n401 n402 : Int, ∃ s403 s404 s405 : Sl, ∃ t406 t407 : ByteArray, ∃ n408 n409 n410 : Int, w400.cell? ⟨b383, 0, none⟩ = some (.int .i64 n401) ∧ w400.cell? ⟨b383, 1, none⟩ = some (.int .i64 n402) ∧ w400.cell? ⟨b383, 2, none⟩ = some (s403.val) ∧ w400.cell? ⟨b383, 3, none⟩ = some (s404.val) ∧ w400.cell? ⟨b383, 4, none⟩ = some (s405.val) ∧ w400.cell? ⟨b383, 5, none⟩ = some (.string t406) ∧ w400.cell? ⟨b383, 6, none⟩ = some (.string t407) ∧ w400.cell? ⟨b383, 7, none⟩ = some (.int .i64 n408) ∧ w400.cell? ⟨b383, 8, none⟩ = some (.int .i64 n409) ∧ w400.cell? ⟨b383, 9, none⟩ = some (.int .i64 n410) ∧
 ∃ n411 n412 : Int, ∃ s413 s414 s415 : Sl, ∃ t416 t417 : ByteArray, ∃ n418 n419 n420 : Int, w400.cell? ⟨b242, 0, none⟩ = some (.int .i64 n411) ∧ w400.cell? ⟨b242, 1, none⟩ = some (.int .i64 n412) ∧ w400.cell? ⟨b242, 2, none⟩ = some (s413.val) ∧ w400.cell? ⟨b242, 3, none⟩ = some (s414.val) ∧ w400.cell? ⟨b242, 4, none⟩ = some (s415.val) ∧ w400.cell? ⟨b242, 5, none⟩ = some (.string t416) ∧ w400.cell? ⟨b242, 6, none⟩ = some (.string t417) ∧ w400.cell? ⟨b242, 7, none⟩ = some (.int .i64 n418) ∧ w400.cell? ⟨b242, 8, none⟩ = some (.int .i64 n419) ∧ w400.cell? ⟨b242, 9, none⟩ = some (.int .i64 n420) ∧
 Calls Tryz.prog fn_hollowaybook_SameState #[.agg #[.int .i64 n401, .int .i64 n402, s403.val, s404.val, s405.val, .string t406, .string t407, .int .i64 n408, .int .i64 n409, .int .i64 n410], .agg #[.int .i64 n411, .int .i64 n412, s413.val, s414.val, s415.val, .string t416, .string t417, .int .i64 n418, .int .i64 n419, .int .i64 n420]] w400 fun e421 w422 => ∃ b423 : Bool, e421 = .returned (.bool b423) ∧
 brB (!b423)
 (J31 true w422)
 (∃ n424 n425 : Int, ∃ b426 : Bool, w422.cell? ⟨b385, 0, none⟩ = some (.int .i64 n424) ∧ w422.cell? ⟨b385, 1, none⟩ = some (.int .i64 n425) ∧ w422.cell? ⟨b385, 2, none⟩ = some (.bool b426) ∧
 ∃ n427 n428 : Int, ∃ b429 : Bool, w422.cell? ⟨b244, 0, none⟩ = some (.int .i64 n427) ∧ w422.cell? ⟨b244, 1, none⟩ = some (.int .i64 n428) ∧ w422.cell? ⟨b244, 2, none⟩ = some (.bool b429) ∧
 ∃ b430 : Bool, ∃ w431 : World, ((do eqGuard .neq T_eval_Done (.tmp 196) (.tmp 197) (.agg #[.int .i64 n424, .int .i64 n425, .bool b426]) (.agg #[.int .i64 n427, .int .i64 n428, .bool b429]); binOp .neq T_eval_Done (.agg #[.int .i64 n424, .int .i64 n425, .bool b426]) (.agg #[.int .i64 n427, .int .i64 n428, .bool b429]) : Sem Value)).run Tryz.prog w422 = .ok (.bool b430) w431 ∧
 J31 b430 w431))
 (∃ n434 n435 : Int, ∃ s436 s437 s438 : Sl, ∃ t439 t440 : ByteArray, ∃ n441 n442 n443 : Int, w356.cell? ⟨b25, 0, none⟩ = some (.int .i64 n434) ∧ w356.cell? ⟨b25, 1, none⟩ = some (.int .i64 n435) ∧ w356.cell? ⟨b25, 2, none⟩ = some (s436.val) ∧ w356.cell? ⟨b25, 3, none⟩ = some (s437.val) ∧ w356.cell? ⟨b25, 4, none⟩ = some (s438.val) ∧ w356.cell? ⟨b25, 5, none⟩ = some (.string t439) ∧ w356.cell? ⟨b25, 6, none⟩ = some (.string t440) ∧ w356.cell? ⟨b25, 7, none⟩ = some (.int .i64 n441) ∧ w356.cell? ⟨b25, 8, none⟩ = some (.int .i64 n442) ∧ w356.cell? ⟨b25, 9, none⟩ = some (.int .i64 n443) ∧
 Calls Tryz.prog fn_slots_Code_Run #[.pointer none, .agg #[.int .i64 n434, .int .i64 n435, s436.val, s437.val, s438.val, .string t439, .string t440, .int .i64 n441, .int .i64 n442, .int .i64 n443], .slice none 0 0] w356 fun e444 w445 => ∃ n446 n447 : Int, ∃ s448 s449 s450 : Sl, ∃ t451 t452 : ByteArray, ∃ n453 n454 : Int, ∃ n455 n456 n457 : Int, ∃ b458 : Bool, e444 = .returned (.tuple #[.agg #[.int .i64 n446, .int .i64 n447, s448.val, s449.val, s450.val, .string t451, .string t452, .int .i64 n453, .int .i64 n454, .int .i64 n455], .agg #[.int .i64 n456, .int .i64 n457, .bool b458]]) ∧
 ∀ (b459 : Nat) (w460 : World), b459 = w445.heap.size → w460 = World.alloc w445 (.cells #[.int .i64 (0 : Int), .int .i64 (0 : Int), .slice none 0 0, .slice none 0 0, .slice none 0 0, .string (bs []), .string (bs []), .int .i64 (0 : Int), .int .i64 (0 : Int), .int .i64 (0 : Int)] T_api_State) →
 ∀ (b461 : Nat) (w462 : World), b461 = w460.heap.size → w462 = World.alloc w460 (.cells #[.int .i64 (0 : Int), .int .i64 (0 : Int), .bool false] T_eval_Done) →
 wrOk w462 ⟨b459, 0, none⟩ 10 ∧ ∀ w463 : World, w463 = stW w462 ⟨b459, 0, none⟩ 0 [.int .i64 n446, .int .i64 n447, s448.val, s449.val, s450.val, .string t451, .string t452, .int .i64 n453, .int .i64 n454, .int .i64 n455] →
 wrOk w463 ⟨b461, 0, none⟩ 3 ∧ ∀ w464 : World, w464 = stW w463 ⟨b461, 0, none⟩ 0 [.int .i64 n456, .int .i64 n457, .bool b458] →
 ∃ n465 n466 : Int, ∃ s467 s468 s469 : Sl, ∃ t470 t471 : ByteArray, ∃ n472 n473 n474 : Int, w464.cell? ⟨b459, 0, none⟩ = some (.int .i64 n465) ∧ w464.cell? ⟨b459, 1, none⟩ = some (.int .i64 n466) ∧ w464.cell? ⟨b459, 2, none⟩ = some (s467.val) ∧ w464.cell? ⟨b459, 3, none⟩ = some (s468.val) ∧ w464.cell? ⟨b459, 4, none⟩ = some (s469.val) ∧ w464.cell? ⟨b459, 5, none⟩ = some (.string t470) ∧ w464.cell? ⟨b459, 6, none⟩ = some (.string t471) ∧ w464.cell? ⟨b459, 7, none⟩ = some (.int .i64 n472) ∧ w464.cell? ⟨b459, 8, none⟩ = some (.int .i64 n473) ∧ w464.cell? ⟨b459, 9, none⟩ = some (.int .i64 n474) ∧
 ∃ n475 n476 : Int, ∃ s477 s478 s479 : Sl, ∃ t480 t481 : ByteArray, ∃ n482 n483 n484 : Int, w464.cell? ⟨b25, 0, none⟩ = some (.int .i64 n475) ∧ w464.cell? ⟨b25, 1, none⟩ = some (.int .i64 n476) ∧ w464.cell? ⟨b25, 2, none⟩ = some (s477.val) ∧ w464.cell? ⟨b25, 3, none⟩ = some (s478.val) ∧ w464.cell? ⟨b25, 4, none⟩ = some (s479.val) ∧ w464.cell? ⟨b25, 5, none⟩ = some (.string t480) ∧ w464.cell? ⟨b25, 6, none⟩ = some (.string t481) ∧ w464.cell? ⟨b25, 7, none⟩ = some (.int .i64 n482) ∧ w464.cell? ⟨b25, 8, none⟩ = some (.int .i64 n483) ∧ w464.cell? ⟨b25, 9, none⟩ = some (.int .i64 n484) ∧
 Calls Tryz.prog fn_hollowaybook_SameState #[.agg #[.int .i64 n465, .int .i64 n466, s467.val, s468.val, s469.val, .string t470, .string t471, .int .i64 n472, .int .i64 n473, .int .i64 n474], .agg #[.int .i64 n475, .int .i64 n476, s477.val, s478.val, s479.val, .string t480, .string t481, .int .i64 n482, .int .i64 n483, .int .i64 n484]] w464 fun e485 w486 => ∃ b487 : Bool, e485 = .returned (.bool b487) ∧
 brB b487
 (∃ n488 n489 : Int, ∃ b490 : Bool, w486.cell? ⟨b461, 0, none⟩ = some (.int .i64 n488) ∧ w486.cell? ⟨b461, 1, none⟩ = some (.int .i64 n489) ∧ w486.cell? ⟨b461, 2, none⟩ = some (.bool b490) ∧
 ∃ b491 : Bool, ∃ w492 : World, ((do eqGuard .eql T_eval_Done (.tmp 210) (.tmp 211) (.agg #[.int .i64 n488, .int .i64 n489, .bool b490]) (.agg #[.int .i64 (-1 : Int), .int .i64 (0 : Int), .bool false]); binOp .eql T_eval_Done (.agg #[.int .i64 n488, .int .i64 n489, .bool b490]) (.agg #[.int .i64 (-1 : Int), .int .i64 (0 : Int), .bool false]) : Sem Value)).run Tryz.prog w486 = .ok (.bool b491) w492 ∧
 brB b491
 (Calls Tryz.prog fn_slots_Code_Registers #[.pointer none] w492 fun e493 w494 => ∃ n495 : Int, e493 = .returned (.int .i64 n495) ∧
 Calls Tryz.prog fn_slots_Code_Len #[.pointer none] w494 fun e496 w497 => ∃ n498 : Int, e496 = .returned (.int .i64 n498) ∧
 brB ((wr (n495 + n498)) == (0 : Int))
 (∃ n499 n500 : Int, ∃ s501 s502 s503 : Sl, ∃ t504 t505 : ByteArray, ∃ n506 n507 n508 : Int, w497.cell? ⟨b351, 0, none⟩ = some (.int .i64 n499) ∧ w497.cell? ⟨b351, 1, none⟩ = some (.int .i64 n500) ∧ w497.cell? ⟨b351, 2, none⟩ = some (s501.val) ∧ w497.cell? ⟨b351, 3, none⟩ = some (s502.val) ∧ w497.cell? ⟨b351, 4, none⟩ = some (s503.val) ∧ w497.cell? ⟨b351, 5, none⟩ = some (.string t504) ∧ w497.cell? ⟨b351, 6, none⟩ = some (.string t505) ∧ w497.cell? ⟨b351, 7, none⟩ = some (.int .i64 n506) ∧ w497.cell? ⟨b351, 8, none⟩ = some (.int .i64 n507) ∧ w497.cell? ⟨b351, 9, none⟩ = some (.int .i64 n508) ∧
 ∃ n509 n510 : Int, ∃ s511 s512 s513 : Sl, ∃ t514 t515 : ByteArray, ∃ n516 n517 n518 : Int, w497.cell? ⟨b25, 0, none⟩ = some (.int .i64 n509) ∧ w497.cell? ⟨b25, 1, none⟩ = some (.int .i64 n510) ∧ w497.cell? ⟨b25, 2, none⟩ = some (s511.val) ∧ w497.cell? ⟨b25, 3, none⟩ = some (s512.val) ∧ w497.cell? ⟨b25, 4, none⟩ = some (s513.val) ∧ w497.cell? ⟨b25, 5, none⟩ = some (.string t514) ∧ w497.cell? ⟨b25, 6, none⟩ = some (.string t515) ∧ w497.cell? ⟨b25, 7, none⟩ = some (.int .i64 n516) ∧ w497.cell? ⟨b25, 8, none⟩ = some (.int .i64 n517) ∧ w497.cell? ⟨b25, 9, none⟩ = some (.int .i64 n518) ∧
 Calls Tryz.prog fn_hollowaybook_StaysState #[.agg #[.int .i64 n499, .int .i64 n500, s501.val, s502.val, s503.val, .string t504, .string t505, .int .i64 n506, .int .i64 n507, .int .i64 n508], .agg #[.int .i64 n509, .int .i64 n510, s511.val, s512.val, s513.val, .string t514, .string t515, .int .i64 n516, .int .i64 n517, .int .i64 n518]] w497 fun e519 w520 => ∃ b521 : Bool, e519 = .returned (.bool b521) ∧
 brB b521
 (Calls Tryz.prog fn_hollowaybook_StaysInts #[s350.val, watched20.val] w520 fun e522 w523 => ∃ b524 : Bool, e522 = .returned (.bool b524) ∧
 brB b524
 (Calls Tryz.prog fn_hollowaybook_Book_Apart #[.pointer (some ⟨b354, 0, none⟩)] w523 fun e525 w526 => ∃ b527 : Bool, e525 = .returned (.bool b527) ∧
 K (.bool b527) w526)
 (K (.bool false) w523))
 (K (.bool false) w520))
 (K (.bool false) w497))
 (K (.bool false) w492))
 (K (.bool false) w486))) ∧
 ∃ n248 n249 : Int, ∃ n250 n251 n252 : Int, ∃ s253 s254 : Sl, ∃ n255 : Int, ∃ s256 : Sl, w247.cell? ⟨b23, 0, none⟩ = some (.int .i64 n248) ∧ w247.cell? ⟨b23, 1, none⟩ = some (.int .i64 n249) ∧ w247.cell? ⟨b23, 2, none⟩ = some (.int .i64 n250) ∧ w247.cell? ⟨b23, 3, none⟩ = some (.int .i64 n251) ∧ w247.cell? ⟨b23, 4, none⟩ = some (.int .i64 n252) ∧ w247.cell? ⟨b23, 5, none⟩ = some (s253.val) ∧ w247.cell? ⟨b23, 6, none⟩ = some (s254.val) ∧ w247.cell? ⟨b23, 7, none⟩ = some (.int .i64 n255) ∧ w247.cell? ⟨b23, 8, none⟩ = some (s256.val) ∧
 ∃ n257 n258 : Int, ∃ s259 s260 s261 : Sl, ∃ t262 t263 : ByteArray, ∃ n264 n265 n266 : Int, w247.cell? ⟨b25, 0, none⟩ = some (.int .i64 n257) ∧ w247.cell? ⟨b25, 1, none⟩ = some (.int .i64 n258) ∧ w247.cell? ⟨b25, 2, none⟩ = some (s259.val) ∧ w247.cell? ⟨b25, 3, none⟩ = some (s260.val) ∧ w247.cell? ⟨b25, 4, none⟩ = some (s261.val) ∧ w247.cell? ⟨b25, 5, none⟩ = some (.string t262) ∧ w247.cell? ⟨b25, 6, none⟩ = some (.string t263) ∧ w247.cell? ⟨b25, 7, none⟩ = some (.int .i64 n264) ∧ w247.cell? ⟨b25, 8, none⟩ = some (.int .i64 n265) ∧ w247.cell? ⟨b25, 9, none⟩ = some (.int .i64 n266) ∧
 Calls Tryz.prog fn_hollowayref15_May #[.agg #[.int .i64 n248, .int .i64 n249, .int .i64 n250, .int .i64 n251, .int .i64 n252, s253.val, s254.val, .int .i64 n255, s256.val], .agg #[.int .i64 n257, .int .i64 n258, s259.val, s260.val, s261.val, .string t262, .string t263, .int .i64 n264, .int .i64 n265, .int .i64 n266]] w247 fun e267 w268 => ∃ b269 : Bool, e267 = .returned (.bool b269) ∧
 brB b269
 (∃ n270 n271 : Int, ∃ n272 n273 n274 : Int, ∃ s275 s276 : Sl, ∃ n277 : Int, ∃ s278 : Sl, w268.cell? ⟨b23, 0, none⟩ = some (.int .i64 n270) ∧ w268.cell? ⟨b23, 1, none⟩ = some (.int .i64 n271) ∧ w268.cell? ⟨b23, 2, none⟩ = some (.int .i64 n272) ∧ w268.cell? ⟨b23, 3, none⟩ = some (.int .i64 n273) ∧ w268.cell? ⟨b23, 4, none⟩ = some (.int .i64 n274) ∧ w268.cell? ⟨b23, 5, none⟩ = some (s275.val) ∧ w268.cell? ⟨b23, 6, none⟩ = some (s276.val) ∧ w268.cell? ⟨b23, 7, none⟩ = some (.int .i64 n277) ∧ w268.cell? ⟨b23, 8, none⟩ = some (s278.val) ∧
 ∃ n279 n280 : Int, ∃ s281 s282 s283 : Sl, ∃ t284 t285 : ByteArray, ∃ n286 n287 n288 : Int, w268.cell? ⟨b25, 0, none⟩ = some (.int .i64 n279) ∧ w268.cell? ⟨b25, 1, none⟩ = some (.int .i64 n280) ∧ w268.cell? ⟨b25, 2, none⟩ = some (s281.val) ∧ w268.cell? ⟨b25, 3, none⟩ = some (s282.val) ∧ w268.cell? ⟨b25, 4, none⟩ = some (s283.val) ∧ w268.cell? ⟨b25, 5, none⟩ = some (.string t284) ∧ w268.cell? ⟨b25, 6, none⟩ = some (.string t285) ∧ w268.cell? ⟨b25, 7, none⟩ = some (.int .i64 n286) ∧ w268.cell? ⟨b25, 8, none⟩ = some (.int .i64 n287) ∧ w268.cell? ⟨b25, 9, none⟩ = some (.int .i64 n288) ∧
 Calls Tryz.prog fn_hollowayref15_Run #[.agg #[.int .i64 n270, .int .i64 n271, .int .i64 n272, .int .i64 n273, .int .i64 n274, s275.val, s276.val, .int .i64 n277, s278.val], .agg #[.int .i64 n279, .int .i64 n280, s281.val, s282.val, s283.val, .string t284, .string t285, .int .i64 n286, .int .i64 n287, .int .i64 n288], watched20.val] w268 fun e289 w290 => ∃ n291 n292 : Int, ∃ s293 s294 s295 : Sl, ∃ t296 t297 : ByteArray, ∃ n298 n299 : Int, ∃ n300 n301 : Int, ∃ b302 : Bool, e289 = .returned (.tuple #[.agg #[.int .i64 n291, .int .i64 n292, s293.val, s294.val, s295.val, .string t296, .string t297, .int .i64 n298, .int .i64 n299, .int .i64 n300], .int .i64 n301, .bool b302]) ∧
 ∀ (b303 : Nat) (w304 : World), b303 = w290.heap.size → w304 = World.alloc w290 (.cells #[.int .i64 (0 : Int), .int .i64 (0 : Int), .slice none 0 0, .slice none 0 0, .slice none 0 0, .string (bs []), .string (bs []), .int .i64 (0 : Int), .int .i64 (0 : Int), .int .i64 (0 : Int)] T_api_State) →
 wrOk w304 ⟨b303, 0, none⟩ 10 ∧ ∀ w305 : World, w305 = stW w304 ⟨b303, 0, none⟩ 0 [.int .i64 n291, .int .i64 n292, s293.val, s294.val, s295.val, .string t296, .string t297, .int .i64 n298, .int .i64 n299, .int .i64 n300] →
 ∀ w306 : World, w306 = World.drew w305 →
 ∃ S307 : World → Prop, S307 w306 ∧
 ∃ n308 n309 : Int, ∃ s310 s311 s312 : Sl, ∃ t313 t314 : ByteArray, ∃ n315 n316 n317 : Int, held S307 ⟨b303, 0, none⟩ (.int .i64 n308) ∧ held S307 ⟨b303, 1, none⟩ (.int .i64 n309) ∧ held S307 ⟨b303, 2, none⟩ (s310.val) ∧ held S307 ⟨b303, 3, none⟩ (s311.val) ∧ held S307 ⟨b303, 4, none⟩ (s312.val) ∧ held S307 ⟨b303, 5, none⟩ (.string t313) ∧ held S307 ⟨b303, 6, none⟩ (.string t314) ∧ held S307 ⟨b303, 7, none⟩ (.int .i64 n315) ∧ held S307 ⟨b303, 8, none⟩ (.int .i64 n316) ∧ held S307 ⟨b303, 9, none⟩ (.int .i64 n317) ∧
 ∃ s318 : Sl, held S307 ⟨b23, 6, none⟩ (s318.val) ∧
 ∃ a319 : Addr, s318.ptr = some a319 ∧ 0 ≤ n301 ∧ n301 < (s318.len : Int) ∧
 ∃ n320 : Int, held S307 (Addr.add (Addr.add a319 (Int.toNat n301 * 4)) 1) (.int .i64 n320) ∧
 (S307 w306 ∧
 wrOk w306 ⟨b242, 0, none⟩ 10 ∧ ∀ w321 : World, w321 = stW w306 ⟨b242, 0, none⟩ 0 [.int .i64 n308, .int .i64 n309, s310.val, s311.val, s312.val, .string t313, .string t314, .int .i64 n315, .int .i64 n316, .int .i64 n317] →
 S307 w321 ∧
 wrOk w321 ⟨b244, 0, none⟩ 3 ∧ ∀ w322 : World, w322 = stW w321 ⟨b244, 0, none⟩ 0 [.int .i64 n301, .int .i64 n320, .bool b302] →
 J19  w322) ∧
 (wrOk w306 ⟨b242, 0, none⟩ 10 ∧ ∀ w323 : World, w323 = stW w306 ⟨b242, 0, none⟩ 0 [.int .i64 n308, .int .i64 n309, s310.val, s311.val, s312.val, .string t313, .string t314, .int .i64 n315, .int .i64 n316, .int .i64 n317] →
 S307 w323 ∧
 S307 w323 ∧
 wrOk w323 ⟨b244, 0, none⟩ 3 ∧ ∀ w324 : World, w324 = stW w323 ⟨b244, 0, none⟩ 0 [.int .i64 n301, .int .i64 n320, .bool b302] →
 J19  w324))
 (J19  w268)) ∧
 brB at_22
 (∃ n228 : Int, w226.cell? ⟨b23, 0, none⟩ = some (.int .i64 n228) ∧
 wrOk w226 ⟨b25, 0, none⟩ 1 ∧ ∀ w229 : World, w229 = stW w226 ⟨b25, 0, none⟩ 0 [.int .i64 n228] →
 wrOk w229 ⟨b25, 8, none⟩ 1 ∧ ∀ w230 : World, w230 = stW w229 ⟨b25, 8, none⟩ 0 [.int .i64 (0 : Int)] →
 J16  w230)
 (J16  w226))) ∧
 ∀ w160 : World, w160 = World.drew w157 →
 ∃ S161 : World → Prop, S161 w160 ∧
 ∃ n162 n163 : Int, ∃ n164 n165 n166 : Int, ∃ s167 s168 : Sl, ∃ n169 : Int, ∃ s170 : Sl, held S161 ⟨b80, 0, none⟩ (.int .i64 n162) ∧ held S161 ⟨b80, 1, none⟩ (.int .i64 n163) ∧ held S161 ⟨b80, 2, none⟩ (.int .i64 n164) ∧ held S161 ⟨b80, 3, none⟩ (.int .i64 n165) ∧ held S161 ⟨b80, 4, none⟩ (.int .i64 n166) ∧ held S161 ⟨b80, 5, none⟩ (s167.val) ∧ held S161 ⟨b80, 6, none⟩ (s168.val) ∧ held S161 ⟨b80, 7, none⟩ (.int .i64 n169) ∧ held S161 ⟨b80, 8, none⟩ (s170.val) ∧
 Calls Tryz.prog fn_slots_Least #[.agg #[.int .i64 n162, .int .i64 n163, .int .i64 n164, .int .i64 n165, .int .i64 n166, s167.val, s168.val, .int .i64 n169, s170.val]] w160 fun e171 w172 => ∃ n173 : Int, e171 = .returned (.int .i64 n173) ∧
 S161 w172 ∧
 brB (n173 != n133)
 (J14 true w172)
 (brB b146
 (J14 true w172)
 (brB (!b159)
 (J14 true w172)
 (brB (Option.isNone p158)
 (J14 true w172)
 (∃ s174 : Sl, held S161 ⟨b23, 5, none⟩ (s174.val) ∧
 Calls Tryz.prog fn_slots_Code_Len #[.pointer p158] w172 fun e175 w176 => ∃ n177 : Int, e175 = .returned (.int .i64 n177) ∧
 S161 w176 ∧
 brB (n177 != (s174.len : Int))
 (J14 true w176)
 (Calls Tryz.prog fn_slots_Code_Registers #[.pointer p158] w176 fun e178 w179 => ∃ n180 : Int, e178 = .returned (.int .i64 n180) ∧
 S161 w179 ∧
 brB (decide (n180 > (wr (n133 + more21))))
 (J14 true w179)
 (brB (decide (n133 > (0 : Int)))
 (Calls Tryz.prog fn_slots_Code_Registers #[.pointer p158] w179 fun e181 w182 => ∃ n183 : Int, e181 = .returned (.int .i64 n183) ∧
 S161 w182 ∧
 brB (decide (n183 < (1 : Int)))
 (J14 true w182)
 (∃ n184 n185 : Int, ∃ n186 n187 n188 : Int, ∃ s189 s190 : Sl, ∃ n191 : Int, ∃ s192 : Sl, held S161 ⟨b80, 0, none⟩ (.int .i64 n184) ∧ held S161 ⟨b80, 1, none⟩ (.int .i64 n185) ∧ held S161 ⟨b80, 2, none⟩ (.int .i64 n186) ∧ held S161 ⟨b80, 3, none⟩ (.int .i64 n187) ∧ held S161 ⟨b80, 4, none⟩ (.int .i64 n188) ∧ held S161 ⟨b80, 5, none⟩ (s189.val) ∧ held S161 ⟨b80, 6, none⟩ (s190.val) ∧ held S161 ⟨b80, 7, none⟩ (.int .i64 n191) ∧ held S161 ⟨b80, 8, none⟩ (s192.val) ∧
 ∃ n193 n194 : Int, ∃ n195 n196 n197 : Int, ∃ s198 s199 : Sl, ∃ n200 : Int, ∃ s201 : Sl, held S161 ⟨b23, 0, none⟩ (.int .i64 n193) ∧ held S161 ⟨b23, 1, none⟩ (.int .i64 n194) ∧ held S161 ⟨b23, 2, none⟩ (.int .i64 n195) ∧ held S161 ⟨b23, 3, none⟩ (.int .i64 n196) ∧ held S161 ⟨b23, 4, none⟩ (.int .i64 n197) ∧ held S161 ⟨b23, 5, none⟩ (s198.val) ∧ held S161 ⟨b23, 6, none⟩ (s199.val) ∧ held S161 ⟨b23, 7, none⟩ (.int .i64 n200) ∧ held S161 ⟨b23, 8, none⟩ (s201.val) ∧
 Calls Tryz.prog fn_hollowaybook_StaysTrace #[.agg #[.int .i64 n184, .int .i64 n185, .int .i64 n186, .int .i64 n187, .int .i64 n188, s189.val, s190.val, .int .i64 n191, s192.val], .agg #[.int .i64 n193, .int .i64 n194, .int .i64 n195, .int .i64 n196, .int .i64 n197, s198.val, s199.val, .int .i64 n200, s201.val]] w182 fun e202 w203 => ∃ b204 : Bool, e202 = .returned (.bool b204) ∧
 J14 (!b204) w203))
 (∃ n205 n206 : Int, ∃ n207 n208 n209 : Int, ∃ s210 s211 : Sl, ∃ n212 : Int, ∃ s213 : Sl, held S161 ⟨b80, 0, none⟩ (.int .i64 n205) ∧ held S161 ⟨b80, 1, none⟩ (.int .i64 n206) ∧ held S161 ⟨b80, 2, none⟩ (.int .i64 n207) ∧ held S161 ⟨b80, 3, none⟩ (.int .i64 n208) ∧ held S161 ⟨b80, 4, none⟩ (.int .i64 n209) ∧ held S161 ⟨b80, 5, none⟩ (s210.val) ∧ held S161 ⟨b80, 6, none⟩ (s211.val) ∧ held S161 ⟨b80, 7, none⟩ (.int .i64 n212) ∧ held S161 ⟨b80, 8, none⟩ (s213.val) ∧
 ∃ n214 n215 : Int, ∃ n216 n217 n218 : Int, ∃ s219 s220 : Sl, ∃ n221 : Int, ∃ s222 : Sl, held S161 ⟨b23, 0, none⟩ (.int .i64 n214) ∧ held S161 ⟨b23, 1, none⟩ (.int .i64 n215) ∧ held S161 ⟨b23, 2, none⟩ (.int .i64 n216) ∧ held S161 ⟨b23, 3, none⟩ (.int .i64 n217) ∧ held S161 ⟨b23, 4, none⟩ (.int .i64 n218) ∧ held S161 ⟨b23, 5, none⟩ (s219.val) ∧ held S161 ⟨b23, 6, none⟩ (s220.val) ∧ held S161 ⟨b23, 7, none⟩ (.int .i64 n221) ∧ held S161 ⟨b23, 8, none⟩ (s222.val) ∧
 Calls Tryz.prog fn_hollowaybook_StaysTrace #[.agg #[.int .i64 n205, .int .i64 n206, .int .i64 n207, .int .i64 n208, .int .i64 n209, s210.val, s211.val, .int .i64 n212, s213.val], .agg #[.int .i64 n214, .int .i64 n215, .int .i64 n216, .int .i64 n217, .int .i64 n218, s219.val, s220.val, .int .i64 n221, s222.val]] w179 fun e223 w224 => ∃ b225 : Bool, e223 = .returned (.bool b225) ∧
 J14 (!b225) w224)))))))))) ∧
 ∃ n27 n28 : Int, ∃ n29 n30 n31 : Int, ∃ s32 s33 : Sl, ∃ n34 : Int, ∃ s35 : Sl, w26.cell? ⟨b23, 0, none⟩ = some (.int .i64 n27) ∧ w26.cell? ⟨b23, 1, none⟩ = some (.int .i64 n28) ∧ w26.cell? ⟨b23, 2, none⟩ = some (.int .i64 n29) ∧ w26.cell? ⟨b23, 3, none⟩ = some (.int .i64 n30) ∧ w26.cell? ⟨b23, 4, none⟩ = some (.int .i64 n31) ∧ w26.cell? ⟨b23, 5, none⟩ = some (s32.val) ∧ w26.cell? ⟨b23, 6, none⟩ = some (s33.val) ∧ w26.cell? ⟨b23, 7, none⟩ = some (.int .i64 n34) ∧ w26.cell? ⟨b23, 8, none⟩ = some (s35.val) ∧
 Calls Tryz.prog fn_hollowaylaw14_Light #[.agg #[.int .i64 n27, .int .i64 n28, .int .i64 n29, .int .i64 n30, .int .i64 n31, s32.val, s33.val, .int .i64 n34, s35.val]] w26 fun e36 w37 => ∃ b38 : Bool, e36 = .returned (.bool b38) ∧
 brB (!b38)
 (J3 true w37)
 (∃ n39 n40 : Int, ∃ s41 s42 s43 : Sl, ∃ t44 t45 : ByteArray, ∃ n46 n47 n48 : Int, w37.cell? ⟨b25, 0, none⟩ = some (.int .i64 n39) ∧ w37.cell? ⟨b25, 1, none⟩ = some (.int .i64 n40) ∧ w37.cell? ⟨b25, 2, none⟩ = some (s41.val) ∧ w37.cell? ⟨b25, 3, none⟩ = some (s42.val) ∧ w37.cell? ⟨b25, 4, none⟩ = some (s43.val) ∧ w37.cell? ⟨b25, 5, none⟩ = some (.string t44) ∧ w37.cell? ⟨b25, 6, none⟩ = some (.string t45) ∧ w37.cell? ⟨b25, 7, none⟩ = some (.int .i64 n46) ∧ w37.cell? ⟨b25, 8, none⟩ = some (.int .i64 n47) ∧ w37.cell? ⟨b25, 9, none⟩ = some (.int .i64 n48) ∧
 Calls Tryz.prog fn_hollowaylaw9_Light #[.agg #[.int .i64 n39, .int .i64 n40, s41.val, s42.val, s43.val, .string t44, .string t45, .int .i64 n46, .int .i64 n47, .int .i64 n48]] w37 fun e49 w50 => ∃ b51 : Bool, e49 = .returned (.bool b51) ∧
 brB (!b51)
 (J3 true w50)
 (brB (decide ((watched20.len : Int) > (60 : Int)))
 (J3 true w50)
 (brB (decide (more21 < (0 : Int)))
 (J3 true w50)
 (brB (decide (more21 > (200 : Int)))
 (J3 true w50)
 (Calls Tryz.prog fn_hollowaylaw20_alive #[] w50 fun e52 w53 => ∃ b54 : Bool, e52 = .returned (.bool b54) ∧
 J3 (!b54) w53)))))
def hollowaylaw20_SlotsRun_an : An := ⟨[(21, [(27, .int .i64)])], [(10, (43, .st 0 (.st 2 (.ef 1 (.st 3 (.st 4 (.st 5 (.st 6 (.st 7 (.st 8 (.st 9 (.st 10 (.st 11 (.st 12 (.st 13 (.st 14 (.st 15 (.st 16 (.st 18 (.st 19 (.st 20 (.ef 17 (.st 21 (.st 22 (.st 23 (.st 24 (.st 26 (.st 27 (.st 28 (.ef 25 (.st 29 (.st 30 (.st 31 (.st 32 (.st 33 (.st 34 (.st 35 (.ef 36 (.st 37 (.st 38 (.st 39 (.st 40 (.st 41 (.st 42 .done)))))))))))))))))))))))))))))))))))))))))), 1)), (17, (11, .st 0 (.st 1 (.st 2 (.st 3 (.st 4 (.st 5 (.st 6 (.st 7 (.st 8 (.two 9 (.ef 10 .done) 10 (.ef 9 .done)))))))))), 1))], [(2, [(57, .bool)]), (11, [(142, .bool)]), (26, [(199, .bool)]), (18, []), (14, [])]⟩
theorem hollowaylaw20_SlotsRun_lift {t1 : Int} {t2 : Int} {t3 : Int} {t4 : Int} {t5 : Int} {t6 : Sl} {t7 : Sl} {t8 : Int} {t9 : Sl} {s10 : Int} {s11 : Int} {s12 : Sl} {s13 : Sl} {s14 : Sl} {s15 : ByteArray} {s16 : ByteArray} {s17 : Int} {s18 : Int} {s19 : Int} {watched20 : Sl} {more21 : Int} {at_22 : Bool} {w : World} {K : Value → World → Prop} (h : hollowaylaw20_SlotsRun_sh t1 t2 t3 t4 t5 t6 t7 t8 t9 s10 s11 s12 s13 s14 s15 s16 s17 s18 s19 watched20 more21 at_22 w K) : Calls Tryz.prog fn_hollowaylaw20_SlotsRun #[.agg #[.int .i64 t1, .int .i64 t2, .int .i64 t3, .int .i64 t4, .int .i64 t5, t6.val, t7.val, .int .i64 t8, t9.val], .agg #[.int .i64 s10, .int .i64 s11, s12.val, s13.val, s14.val, .string s15, .string s16, .int .i64 s17, .int .i64 s18, .int .i64 s19], watched20.val, .int .i64 more21, .bool at_22] w fun e w' => ∃ v, e = .returned v ∧ K v w' :=
   lift_calls (A := hollowaylaw20_SlotsRun_an) (c := bodyOf Tryz.f5) (args := [.agg #[.int .i64 t1, .int .i64 t2, .int .i64 t3, .int .i64 t4, .int .i64 t5, t6.val, t7.val, .int .i64 t8, t9.val], .agg #[.int .i64 s10, .int .i64 s11, s12.val, s13.val, s14.val, .string s15, .string s16, .int .i64 s17, .int .i64 s18, .int .i64 s19], watched20.val, .int .i64 more21, .bool at_22]) orc orc_wide Tryz.func5 (by kernel_rfl) (by kernel_rfl) (Eq.mp (by kernel_rfl : hollowaylaw20_SlotsRun_sh t1 t2 t3 t4 t5 t6 t7 t8 t9 s10 s11 s12 s13 s14 s15 s16 s17 s18 s19 watched20 more21 at_22 w K = wpc orc Tryz.f5.ntmps hollowaylaw20_SlotsRun_an (bodyOf Tryz.f5) (argl 0 [.agg #[.int .i64 t1, .int .i64 t2, .int .i64 t3, .int .i64 t4, .int .i64 t5, t6.val, t7.val, .int .i64 t8, t9.val], .agg #[.int .i64 s10, .int .i64 s11, s12.val, s13.val, s14.val, .string s15, .string s16, .int .i64 s17, .int .i64 s18, .int .i64 s19], watched20.val, .int .i64 more21, .bool at_22]) w (retQ orc Tryz.f5.results.toList K)) h)

def hollowaylaw20_alive_sh  (w : World) (K : Value → World → Prop) : Prop :=
 ∀ (b1 : Nat) (w2 : World), b1 = w.heap.size → w2 = World.alloc w (.cells #[.int .i64 (2 : Int), .int .i64 (0 : Int), .int .i64 (0 : Int), .int .i64 (0 : Int), .int .i64 (0 : Int), .int .i64 (4 : Int), .int .i64 (11 : Int), .int .i64 (0 : Int), .int .i64 (0 : Int), .int .i64 (0 : Int)] T_api_Ins) →
 ∀ (b3 : Nat) (w4 : World), b3 = w2.heap.size → w4 = World.alloc w2 (.cells #[.int .i64 (1 : Int)] T_int) →
 ∀ (b5 : Nat) (w6 : World), b5 = w4.heap.size → w6 = World.alloc w4 (.cells #[.int .i64 (7 : Int), .int .i64 (2 : Int), .slice (some ⟨b3, 0, none⟩) 1 1, .slice none 0 0] T_api_Out) →
 ∀ (b7 : Nat) (w8 : World), b7 = w6.heap.size → w8 = World.alloc w6 (.cells #[.int .i64 (0 : Int), .int .i64 (0 : Int), .int .i64 (0 : Int), .int .i64 (0 : Int), .int .i64 (0 : Int), .slice none 0 0, .slice none 0 0, .int .i64 (0 : Int), .slice none 0 0] T_api_Trace) →
 wrOk w8 ⟨b7, 0, none⟩ 9 ∧ ∀ w9 : World, w9 = stW w8 ⟨b7, 0, none⟩ 0 [.int .i64 (5 : Int), .int .i64 (1 : Int), .int .i64 (0 : Int), .int .i64 (0 : Int), .int .i64 (0 : Int), .slice (some ⟨b1, 0, none⟩) 2 2, .slice (some ⟨b5, 0, none⟩) 1 1, .int .i64 (0 : Int), .slice none 0 0] →
 ∃ n10 n11 : Int, ∃ n12 n13 n14 : Int, ∃ s15 s16 : Sl, ∃ n17 : Int, ∃ s18 : Sl, w9.cell? ⟨b7, 0, none⟩ = some (.int .i64 n10) ∧ w9.cell? ⟨b7, 1, none⟩ = some (.int .i64 n11) ∧ w9.cell? ⟨b7, 2, none⟩ = some (.int .i64 n12) ∧ w9.cell? ⟨b7, 3, none⟩ = some (.int .i64 n13) ∧ w9.cell? ⟨b7, 4, none⟩ = some (.int .i64 n14) ∧ w9.cell? ⟨b7, 5, none⟩ = some (s15.val) ∧ w9.cell? ⟨b7, 6, none⟩ = some (s16.val) ∧ w9.cell? ⟨b7, 7, none⟩ = some (.int .i64 n17) ∧ w9.cell? ⟨b7, 8, none⟩ = some (s18.val) ∧
 Calls Tryz.prog fn_slots_Make #[.agg #[.int .i64 n10, .int .i64 n11, .int .i64 n12, .int .i64 n13, .int .i64 n14, s15.val, s16.val, .int .i64 n17, s18.val], .int .i64 (2 : Int)] w9 fun e19 w20 => ∃ p21 : Option Addr, ∃ b22 : Bool, e19 = .returned (.tuple #[.pointer p21, .bool b22]) ∧
 ∃ n23 n24 : Int, ∃ n25 n26 n27 : Int, ∃ s28 s29 : Sl, ∃ n30 : Int, ∃ s31 : Sl, w20.cell? ⟨b7, 0, none⟩ = some (.int .i64 n23) ∧ w20.cell? ⟨b7, 1, none⟩ = some (.int .i64 n24) ∧ w20.cell? ⟨b7, 2, none⟩ = some (.int .i64 n25) ∧ w20.cell? ⟨b7, 3, none⟩ = some (.int .i64 n26) ∧ w20.cell? ⟨b7, 4, none⟩ = some (.int .i64 n27) ∧ w20.cell? ⟨b7, 5, none⟩ = some (s28.val) ∧ w20.cell? ⟨b7, 6, none⟩ = some (s29.val) ∧ w20.cell? ⟨b7, 7, none⟩ = some (.int .i64 n30) ∧ w20.cell? ⟨b7, 8, none⟩ = some (s31.val) ∧
 Calls Tryz.prog fn_slots_Make #[.agg #[.int .i64 n23, .int .i64 n24, .int .i64 n25, .int .i64 n26, .int .i64 n27, s28.val, s29.val, .int .i64 n30, s31.val], .int .i64 (1 : Int)] w20 fun e32 w33 => ∃ p34 : Option Addr, ∃ b35 : Bool, e32 = .returned (.tuple #[.pointer p34, .bool b35]) ∧
 ∃ n36 n37 : Int, ∃ n38 n39 n40 : Int, ∃ s41 s42 : Sl, ∃ n43 : Int, ∃ s44 : Sl, w33.cell? ⟨b7, 0, none⟩ = some (.int .i64 n36) ∧ w33.cell? ⟨b7, 1, none⟩ = some (.int .i64 n37) ∧ w33.cell? ⟨b7, 2, none⟩ = some (.int .i64 n38) ∧ w33.cell? ⟨b7, 3, none⟩ = some (.int .i64 n39) ∧ w33.cell? ⟨b7, 4, none⟩ = some (.int .i64 n40) ∧ w33.cell? ⟨b7, 5, none⟩ = some (s41.val) ∧ w33.cell? ⟨b7, 6, none⟩ = some (s42.val) ∧ w33.cell? ⟨b7, 7, none⟩ = some (.int .i64 n43) ∧ w33.cell? ⟨b7, 8, none⟩ = some (s44.val) ∧
 Calls Tryz.prog fn_slots_Least #[.agg #[.int .i64 n36, .int .i64 n37, .int .i64 n38, .int .i64 n39, .int .i64 n40, s41.val, s42.val, .int .i64 n43, s44.val]] w33 fun e45 w46 => ∃ n47 : Int, e45 = .returned (.int .i64 n47) ∧
 brB (n47 == (2 : Int))
 (brB b22
 (brB (!(Option.isNone p21))
 (brB (!b35)
 (Calls Tryz.prog fn_slots_Code_Registers #[.pointer p21] w46 fun e48 w49 => ∃ n50 : Int, e48 = .returned (.int .i64 n50) ∧
 brB (decide (n50 ≥ (1 : Int)))
 (Calls Tryz.prog fn_slots_Code_Registers #[.pointer p21] w49 fun e51 w52 => ∃ n53 : Int, e51 = .returned (.int .i64 n53) ∧
 brB (decide (n53 ≤ (2 : Int)))
 (Calls Tryz.prog fn_slots_Code_Len #[.pointer p21] w52 fun e54 w55 => ∃ n56 : Int, e54 = .returned (.int .i64 n56) ∧
 K (.bool (n56 == (2 : Int))) w55)
 (K (.bool false) w52))
 (K (.bool false) w49))
 (K (.bool false) w46))
 (K (.bool false) w46))
 (K (.bool false) w46))
 (K (.bool false) w46)
def hollowaylaw20_alive_an : An := ⟨[], [], []⟩
theorem hollowaylaw20_alive_lift  {w : World} {K : Value → World → Prop} (h : hollowaylaw20_alive_sh  w K) : Calls Tryz.prog fn_hollowaylaw20_alive #[] w fun e w' => ∃ v, e = .returned v ∧ K v w' :=
   lift_calls (A := hollowaylaw20_alive_an) (c := bodyOf Tryz.f30) (args := []) orc orc_wide Tryz.func30 (by kernel_rfl) (by kernel_rfl) (Eq.mp (by kernel_rfl : hollowaylaw20_alive_sh  w K = wpc orc Tryz.f30.ntmps hollowaylaw20_alive_an (bodyOf Tryz.f30) (argl 0 []) w (retQ orc Tryz.f30.results.toList K)) h)

end Go.Proofs.YtblmoilneiffgaaGreat
