/- The lifted texts of the packages eval and hollowayref15. -/
import Derived.Test.YtblmoilneiffgaaGreatJ4

/- Functions of Eval, read without their frames; that each is enough. Printed by a program of mine (wip/lift/gen.py). -/
set_option maxRecDepth 100000
namespace Go.Proofs.YtblmoilneiffgaaGreat
open Go.RowKit

def eval_May_sh (t1 : Int) (t2 : Int) (t3 : Int) (t4 : Int) (t5 : Int) (t6 : Sl) (t7 : Sl) (t8 : Int) (t9 : Sl) (s10 : Int) (s11 : Int) (s12 : Sl) (s13 : Sl) (s14 : Sl) (s15 : ByteArray) (s16 : ByteArray) (s17 : Int) (s18 : Int) (s19 : Int) (w : World) (K : Value → World → Prop) : Prop :=
 ∀ (b20 : Nat) (w21 : World), b20 = w.heap.size → w21 = World.alloc w (.cells #[.int .i64 t1, .int .i64 t2, .int .i64 t3, .int .i64 t4, .int .i64 t5, t6.val, t7.val, .int .i64 t8, t9.val] T_api_Trace) →
 ∀ (b22 : Nat) (w23 : World), b22 = w21.heap.size → w23 = World.alloc w21 (.cells #[.int .i64 s10, .int .i64 s11, s12.val, s13.val, s14.val, .string s15, .string s16, .int .i64 s17, .int .i64 s18, .int .i64 s19] T_api_State) →
 ∃ J3 : Bool → World → Prop, (∀ (b28 : Bool) (w27 : World), J3 b28 w27 →
 brB b28
 (K (.bool false) w27)
 (∃ J5 : Bool → World → Prop, (∀ (stack34 : Bool) (w33 : World), J5 stack34 w33 →
 brB stack34
 (∃ s35 : Sl, w33.cell? ⟨b22, 3, none⟩ = some (s35.val) ∧
 ∃ n36 : Int, w33.cell? ⟨b20, 2, none⟩ = some (.int .i64 n36) ∧
 brB (decide ((s35.len : Int) ≥ n36))
 (∃ s37 : Sl, w33.cell? ⟨b22, 3, none⟩ = some (s37.val) ∧
 ∃ n38 : Int, w33.cell? ⟨b20, 4, none⟩ = some (.int .i64 n38) ∧
 K (.bool (decide ((wr ((s37.len : Int) + n38)) ≤ (48 : Int)))) w33)
 (K (.bool false) w33))
 (K (.bool false) w33)) ∧
 ∃ s29 : Sl, w27.cell? ⟨b22, 2, none⟩ = some (s29.val) ∧
 ∃ n30 : Int, w27.cell? ⟨b20, 1, none⟩ = some (.int .i64 n30) ∧
 brB (decide ((s29.len : Int) ≥ n30))
 (∃ s31 : Sl, w27.cell? ⟨b22, 2, none⟩ = some (s31.val) ∧
 ∃ n32 : Int, w27.cell? ⟨b20, 3, none⟩ = some (.int .i64 n32) ∧
 J5 (decide ((wr ((s31.len : Int) + n32)) ≤ (48 : Int))) w27)
 (J5 false w27))) ∧
 ∃ n24 : Int, w23.cell? ⟨b22, 8, none⟩ = some (.int .i64 n24) ∧
 brB (n24 != (0 : Int))
 (J3 true w23)
 (∃ n25 : Int, w23.cell? ⟨b22, 0, none⟩ = some (.int .i64 n25) ∧
 ∃ n26 : Int, w23.cell? ⟨b20, 0, none⟩ = some (.int .i64 n26) ∧
 J3 (n25 != n26) w23)
def eval_May_an : An := ⟨[], [], [(2, [(15, .bool)]), (4, [(5, .bool)])]⟩
theorem eval_May_lift {t1 : Int} {t2 : Int} {t3 : Int} {t4 : Int} {t5 : Int} {t6 : Sl} {t7 : Sl} {t8 : Int} {t9 : Sl} {s10 : Int} {s11 : Int} {s12 : Sl} {s13 : Sl} {s14 : Sl} {s15 : ByteArray} {s16 : ByteArray} {s17 : Int} {s18 : Int} {s19 : Int} {w : World} {K : Value → World → Prop} (h : eval_May_sh t1 t2 t3 t4 t5 t6 t7 t8 t9 s10 s11 s12 s13 s14 s15 s16 s17 s18 s19 w K) : Calls Tryz.prog fn_eval_May #[.agg #[.int .i64 t1, .int .i64 t2, .int .i64 t3, .int .i64 t4, .int .i64 t5, t6.val, t7.val, .int .i64 t8, t9.val], .agg #[.int .i64 s10, .int .i64 s11, s12.val, s13.val, s14.val, .string s15, .string s16, .int .i64 s17, .int .i64 s18, .int .i64 s19]] w fun e w' => ∃ v, e = .returned v ∧ K v w' :=
   lift_calls (A := eval_May_an) (c := bodyOf Tryz.f18) (args := [.agg #[.int .i64 t1, .int .i64 t2, .int .i64 t3, .int .i64 t4, .int .i64 t5, t6.val, t7.val, .int .i64 t8, t9.val], .agg #[.int .i64 s10, .int .i64 s11, s12.val, s13.val, s14.val, .string s15, .string s16, .int .i64 s17, .int .i64 s18, .int .i64 s19]]) orc orc_wide Tryz.func18 (by kernel_rfl) (by kernel_rfl) (Eq.mp (by kernel_rfl : eval_May_sh t1 t2 t3 t4 t5 t6 t7 t8 t9 s10 s11 s12 s13 s14 s15 s16 s17 s18 s19 w K = wpc orc Tryz.f18.ntmps eval_May_an (bodyOf Tryz.f18) (argl 0 [.agg #[.int .i64 t1, .int .i64 t2, .int .i64 t3, .int .i64 t4, .int .i64 t5, t6.val, t7.val, .int .i64 t8, t9.val], .agg #[.int .i64 s10, .int .i64 s11, s12.val, s13.val, s14.val, .string s15, .string s16, .int .i64 s17, .int .i64 s18, .int .i64 s19]]) w (retQ orc Tryz.f18.results.toList K)) h)

def eval_Through_sh (t1 : Int) (t2 : Int) (t3 : Int) (t4 : Int) (t5 : Int) (t6 : Sl) (t7 : Sl) (t8 : Int) (t9 : Sl) (s10 : Int) (s11 : Int) (s12 : Sl) (s13 : Sl) (s14 : Sl) (s15 : ByteArray) (s16 : ByteArray) (s17 : Int) (s18 : Int) (s19 : Int) (at_20 : Sl) (n_21 : Int) (watched22 : Sl) (w : World) (K : Value → World → Prop) : Prop :=
 ∀ (b23 : Nat) (w24 : World), b23 = w.heap.size → w24 = World.alloc w (.cells #[.int .i64 t1, .int .i64 t2, .int .i64 t3, .int .i64 t4, .int .i64 t5, t6.val, t7.val, .int .i64 t8, t9.val] T_api_Trace) →
 ∀ (b25 : Nat) (w26 : World), b25 = w24.heap.size → w26 = World.alloc w24 (.cells #[.int .i64 s10, .int .i64 s11, s12.val, s13.val, s14.val, .string s15, .string s16, .int .i64 s17, .int .i64 s18, .int .i64 s19] T_api_State) →
 ∀ (b27 : Nat) (w28 : World), b27 = w26.heap.size → w28 = World.alloc w26 (.cells #[.int .i64 (0 : Int), .int .i64 (0 : Int), .slice none 0 0, .slice none 0 0, .slice none 0 0, .string (bs []), .string (bs []), .int .i64 (0 : Int), .int .i64 (0 : Int), .int .i64 (0 : Int)] T_api_State) →
 ∀ (b29 : Nat) (w30 : World), b29 = w28.heap.size → w30 = World.alloc w28 (.cells #[.int .i64 (0 : Int), .int .i64 (0 : Int), .bool false] T_eval_Done) →
 ∃ n31 n32 : Int, ∃ s33 s34 s35 : Sl, ∃ t36 t37 : ByteArray, ∃ n38 n39 n40 : Int, w30.cell? ⟨b25, 0, none⟩ = some (.int .i64 n31) ∧ w30.cell? ⟨b25, 1, none⟩ = some (.int .i64 n32) ∧ w30.cell? ⟨b25, 2, none⟩ = some (s33.val) ∧ w30.cell? ⟨b25, 3, none⟩ = some (s34.val) ∧ w30.cell? ⟨b25, 4, none⟩ = some (s35.val) ∧ w30.cell? ⟨b25, 5, none⟩ = some (.string t36) ∧ w30.cell? ⟨b25, 6, none⟩ = some (.string t37) ∧ w30.cell? ⟨b25, 7, none⟩ = some (.int .i64 n38) ∧ w30.cell? ⟨b25, 8, none⟩ = some (.int .i64 n39) ∧ w30.cell? ⟨b25, 9, none⟩ = some (.int .i64 n40) ∧
 Calls Tryz.prog fn_inner_Copy #[.agg #[.int .i64 n31, .int .i64 n32, s33.val, s34.val, s35.val, .string t36, .string t37, .int .i64 n38, .int .i64 n39, .int .i64 n40]] w30 fun e41 w42 => ∃ n43 n44 : Int, ∃ s45 s46 s47 : Sl, ∃ t48 t49 : ByteArray, ∃ n50 n51 n52 : Int, e41 = .returned (.agg #[.int .i64 n43, .int .i64 n44, s45.val, s46.val, s47.val, .string t48, .string t49, .int .i64 n50, .int .i64 n51, .int .i64 n52]) ∧
 wrOk w42 ⟨b25, 0, none⟩ 10 ∧ ∀ w53 : World, w53 = stW w42 ⟨b25, 0, none⟩ 0 [.int .i64 n43, .int .i64 n44, s45.val, s46.val, s47.val, .string t48, .string t49, .int .i64 n50, .int .i64 n51, .int .i64 n52] →
 ∃ n54 n55 : Int, ∃ n56 n57 n58 : Int, ∃ s59 s60 : Sl, ∃ n61 : Int, ∃ s62 : Sl, w53.cell? ⟨b23, 0, none⟩ = some (.int .i64 n54) ∧ w53.cell? ⟨b23, 1, none⟩ = some (.int .i64 n55) ∧ w53.cell? ⟨b23, 2, none⟩ = some (.int .i64 n56) ∧ w53.cell? ⟨b23, 3, none⟩ = some (.int .i64 n57) ∧ w53.cell? ⟨b23, 4, none⟩ = some (.int .i64 n58) ∧ w53.cell? ⟨b23, 5, none⟩ = some (s59.val) ∧ w53.cell? ⟨b23, 6, none⟩ = some (s60.val) ∧ w53.cell? ⟨b23, 7, none⟩ = some (.int .i64 n61) ∧ w53.cell? ⟨b23, 8, none⟩ = some (s62.val) ∧
 ∃ n63 n64 : Int, ∃ s65 s66 s67 : Sl, ∃ t68 t69 : ByteArray, ∃ n70 n71 n72 : Int, w53.cell? ⟨b25, 0, none⟩ = some (.int .i64 n63) ∧ w53.cell? ⟨b25, 1, none⟩ = some (.int .i64 n64) ∧ w53.cell? ⟨b25, 2, none⟩ = some (s65.val) ∧ w53.cell? ⟨b25, 3, none⟩ = some (s66.val) ∧ w53.cell? ⟨b25, 4, none⟩ = some (s67.val) ∧ w53.cell? ⟨b25, 5, none⟩ = some (.string t68) ∧ w53.cell? ⟨b25, 6, none⟩ = some (.string t69) ∧ w53.cell? ⟨b25, 7, none⟩ = some (.int .i64 n70) ∧ w53.cell? ⟨b25, 8, none⟩ = some (.int .i64 n71) ∧ w53.cell? ⟨b25, 9, none⟩ = some (.int .i64 n72) ∧
 Calls Tryz.prog fn_eval_May #[.agg #[.int .i64 n54, .int .i64 n55, .int .i64 n56, .int .i64 n57, .int .i64 n58, s59.val, s60.val, .int .i64 n61, s62.val], .agg #[.int .i64 n63, .int .i64 n64, s65.val, s66.val, s67.val, .string t68, .string t69, .int .i64 n70, .int .i64 n71, .int .i64 n72]] w53 fun e73 w74 => ∃ b75 : Bool, e73 = .returned (.bool b75) ∧
 brB (!b75)
 (∃ n76 n77 : Int, ∃ s78 s79 s80 : Sl, ∃ t81 t82 : ByteArray, ∃ n83 n84 n85 : Int, w74.cell? ⟨b25, 0, none⟩ = some (.int .i64 n76) ∧ w74.cell? ⟨b25, 1, none⟩ = some (.int .i64 n77) ∧ w74.cell? ⟨b25, 2, none⟩ = some (s78.val) ∧ w74.cell? ⟨b25, 3, none⟩ = some (s79.val) ∧ w74.cell? ⟨b25, 4, none⟩ = some (s80.val) ∧ w74.cell? ⟨b25, 5, none⟩ = some (.string t81) ∧ w74.cell? ⟨b25, 6, none⟩ = some (.string t82) ∧ w74.cell? ⟨b25, 7, none⟩ = some (.int .i64 n83) ∧ w74.cell? ⟨b25, 8, none⟩ = some (.int .i64 n84) ∧ w74.cell? ⟨b25, 9, none⟩ = some (.int .i64 n85) ∧
 wrOk w74 ⟨b27, 0, none⟩ 10 ∧ ∀ w86 : World, w86 = stW w74 ⟨b27, 0, none⟩ 0 [.int .i64 n76, .int .i64 n77, s78.val, s79.val, s80.val, .string t81, .string t82, .int .i64 n83, .int .i64 n84, .int .i64 n85] →
 wrOk w86 ⟨b29, 0, none⟩ 3 ∧ ∀ w87 : World, w87 = stW w86 ⟨b29, 0, none⟩ 0 [.int .i64 (-1 : Int), .int .i64 (0 : Int), .bool false] →
 ∃ r88 r89 : Int, ∃ r90 r91 r92 : Sl, ∃ r93 r94 : ByteArray, ∃ r95 r96 r97 : Int, w87.cell? ⟨b27, 0, none⟩ = some (.int .i64 r88) ∧ w87.cell? ⟨b27, 1, none⟩ = some (.int .i64 r89) ∧ w87.cell? ⟨b27, 2, none⟩ = some (r90.val) ∧ w87.cell? ⟨b27, 3, none⟩ = some (r91.val) ∧ w87.cell? ⟨b27, 4, none⟩ = some (r92.val) ∧ w87.cell? ⟨b27, 5, none⟩ = some (.string r93) ∧ w87.cell? ⟨b27, 6, none⟩ = some (.string r94) ∧ w87.cell? ⟨b27, 7, none⟩ = some (.int .i64 r95) ∧ w87.cell? ⟨b27, 8, none⟩ = some (.int .i64 r96) ∧ w87.cell? ⟨b27, 9, none⟩ = some (.int .i64 r97) ∧
 ∃ r98 r99 : Int, ∃ r100 : Bool, w87.cell? ⟨b29, 0, none⟩ = some (.int .i64 r98) ∧ w87.cell? ⟨b29, 1, none⟩ = some (.int .i64 r99) ∧ w87.cell? ⟨b29, 2, none⟩ = some (.bool r100) ∧
 K (.tuple #[.agg #[.int .i64 r88, .int .i64 r89, r90.val, r91.val, r92.val, .string r93, .string r94, .int .i64 r95, .int .i64 r96, .int .i64 r97], .agg #[.int .i64 r98, .int .i64 r99, .bool r100], .int .i64 (-1 : Int)]) w87)
 (∀ w101 : World, w101 = World.drew w74 →
 ∃ S102 : World → Prop, S102 w101 ∧
 ∃ n103 n104 : Int, ∃ n105 n106 n107 : Int, ∃ s108 s109 : Sl, ∃ n110 : Int, ∃ s111 : Sl, held S102 ⟨b23, 0, none⟩ (.int .i64 n103) ∧ held S102 ⟨b23, 1, none⟩ (.int .i64 n104) ∧ held S102 ⟨b23, 2, none⟩ (.int .i64 n105) ∧ held S102 ⟨b23, 3, none⟩ (.int .i64 n106) ∧ held S102 ⟨b23, 4, none⟩ (.int .i64 n107) ∧ held S102 ⟨b23, 5, none⟩ (s108.val) ∧ held S102 ⟨b23, 6, none⟩ (s109.val) ∧ held S102 ⟨b23, 7, none⟩ (.int .i64 n110) ∧ held S102 ⟨b23, 8, none⟩ (s111.val) ∧
 ∃ n112 n113 : Int, ∃ s114 s115 s116 : Sl, ∃ t117 t118 : ByteArray, ∃ n119 n120 n121 : Int, held S102 ⟨b25, 0, none⟩ (.int .i64 n112) ∧ held S102 ⟨b25, 1, none⟩ (.int .i64 n113) ∧ held S102 ⟨b25, 2, none⟩ (s114.val) ∧ held S102 ⟨b25, 3, none⟩ (s115.val) ∧ held S102 ⟨b25, 4, none⟩ (s116.val) ∧ held S102 ⟨b25, 5, none⟩ (.string t117) ∧ held S102 ⟨b25, 6, none⟩ (.string t118) ∧ held S102 ⟨b25, 7, none⟩ (.int .i64 n119) ∧ held S102 ⟨b25, 8, none⟩ (.int .i64 n120) ∧ held S102 ⟨b25, 9, none⟩ (.int .i64 n121) ∧
 ∃ s122 : Sl, ∃ w123 : World, (Instr.makeSlice T_sl_int (.int .i64 n_21) (.int .i64 n_21)).run Tryz.prog w101 = .ok s122.val w123 ∧
 S102 w123 ∧
 ∀ (b124 : Nat) (w125 : World), b124 = w123.heap.size → w125 = World.alloc w123 (.cells #[.int .i64 n103, .int .i64 n104, .int .i64 n105, .int .i64 n106, .int .i64 n107, s108.val, s109.val, .int .i64 n110, s111.val, .int .i64 n112, .int .i64 n113, s114.val, s115.val, s116.val, .string t117, .string t118, .int .i64 n119, .int .i64 n120, .int .i64 n121, s122.val, at_20.val, watched22.val, .int .i64 (-1 : Int)] T_eval_engine) →
 ∃ s126 : Sl, w125.cell? ⟨b23, 5, none⟩ = some (s126.val) ∧
 ∃ (I1 : Int → World → Prop) (μ1 : Int → World → Nat), I1 (0 : Int) w125 ∧ ∀ (n128 : Int) (w127 : World), I1 n128 w127 →
 brB (decide (n128 < (s126.len : Int)))
 (∃ a129 : Addr, s126.ptr = some a129 ∧ 0 ≤ n128 ∧ n128 < (s126.len : Int) ∧
 ∃ n130 n131 : Int, ∃ n132 n133 n134 : Int, w127.cell? (Addr.add a129 (Int.toNat n128 * 5)) = some (.int .i64 n130) ∧ w127.cell? (Addr.add (Addr.add a129 (Int.toNat n128 * 5)) 1) = some (.int .i64 n131) ∧ w127.cell? (Addr.add (Addr.add a129 (Int.toNat n128 * 5)) 2) = some (.int .i64 n132) ∧ w127.cell? (Addr.add (Addr.add a129 (Int.toNat n128 * 5)) 3) = some (.int .i64 n133) ∧ w127.cell? (Addr.add (Addr.add a129 (Int.toNat n128 * 5)) 4) = some (.int .i64 n134) ∧
 ∀ (b135 : Nat) (w136 : World), b135 = w127.heap.size → w136 = World.alloc w127 (.cells #[.int .i64 (0 : Int), .int .i64 (0 : Int), .int .i64 (0 : Int), .int .i64 (0 : Int), .int .i64 (0 : Int)] T_api_Ins) →
 wrOk w136 ⟨b135, 0, none⟩ 5 ∧ ∀ w137 : World, w137 = stW w136 ⟨b135, 0, none⟩ 0 [.int .i64 n130, .int .i64 n131, .int .i64 n132, .int .i64 n133, .int .i64 n134] →
 ∃ n138 n139 : Int, ∃ n140 n141 n142 : Int, w137.cell? ⟨b135, 0, none⟩ = some (.int .i64 n138) ∧ w137.cell? ⟨b135, 1, none⟩ = some (.int .i64 n139) ∧ w137.cell? ⟨b135, 2, none⟩ = some (.int .i64 n140) ∧ w137.cell? ⟨b135, 3, none⟩ = some (.int .i64 n141) ∧ w137.cell? ⟨b135, 4, none⟩ = some (.int .i64 n142) ∧
 Calls Tryz.prog fn_eval_engine_ins #[.pointer (some ⟨b124, 0, none⟩), .int .i64 n128, .agg #[.int .i64 n138, .int .i64 n139, .int .i64 n140, .int .i64 n141, .int .i64 n142]] w137 fun e143 w144 => ∃ n145 : Int, e143 = .returned (.int .i64 n145) ∧
 brB (decide (n145 ≥ (0 : Int)))
 (Calls Tryz.prog fn_eval_engine_leave #[.pointer (some ⟨b124, 0, none⟩), .int .i64 n145] w144 fun e146 w147 => ∃ n148 n149 : Int, ∃ s150 s151 s152 : Sl, ∃ t153 t154 : ByteArray, ∃ n155 n156 : Int, ∃ n157 n158 n159 : Int, ∃ b160 : Bool, ∃ n161 : Int, e146 = .returned (.tuple #[.agg #[.int .i64 n148, .int .i64 n149, s150.val, s151.val, s152.val, .string t153, .string t154, .int .i64 n155, .int .i64 n156, .int .i64 n157], .agg #[.int .i64 n158, .int .i64 n159, .bool b160], .int .i64 n161]) ∧
 wrOk w147 ⟨b27, 0, none⟩ 10 ∧ ∀ w162 : World, w162 = stW w147 ⟨b27, 0, none⟩ 0 [.int .i64 n148, .int .i64 n149, s150.val, s151.val, s152.val, .string t153, .string t154, .int .i64 n155, .int .i64 n156, .int .i64 n157] →
 wrOk w162 ⟨b29, 0, none⟩ 3 ∧ ∀ w163 : World, w163 = stW w162 ⟨b29, 0, none⟩ 0 [.int .i64 n158, .int .i64 n159, .bool b160] →
 ∃ r164 r165 : Int, ∃ r166 r167 r168 : Sl, ∃ r169 r170 : ByteArray, ∃ r171 r172 r173 : Int, w163.cell? ⟨b27, 0, none⟩ = some (.int .i64 r164) ∧ w163.cell? ⟨b27, 1, none⟩ = some (.int .i64 r165) ∧ w163.cell? ⟨b27, 2, none⟩ = some (r166.val) ∧ w163.cell? ⟨b27, 3, none⟩ = some (r167.val) ∧ w163.cell? ⟨b27, 4, none⟩ = some (r168.val) ∧ w163.cell? ⟨b27, 5, none⟩ = some (.string r169) ∧ w163.cell? ⟨b27, 6, none⟩ = some (.string r170) ∧ w163.cell? ⟨b27, 7, none⟩ = some (.int .i64 r171) ∧ w163.cell? ⟨b27, 8, none⟩ = some (.int .i64 r172) ∧ w163.cell? ⟨b27, 9, none⟩ = some (.int .i64 r173) ∧
 ∃ r174 r175 : Int, ∃ r176 : Bool, w163.cell? ⟨b29, 0, none⟩ = some (.int .i64 r174) ∧ w163.cell? ⟨b29, 1, none⟩ = some (.int .i64 r175) ∧ w163.cell? ⟨b29, 2, none⟩ = some (.bool r176) ∧
 K (.tuple #[.agg #[.int .i64 r164, .int .i64 r165, r166.val, r167.val, r168.val, .string r169, .string r170, .int .i64 r171, .int .i64 r172, .int .i64 r173], .agg #[.int .i64 r174, .int .i64 r175, .bool r176], .int .i64 n161]) w163)
 (I1 (wr (n128 + (1 : Int))) w144 ∧ μ1 (wr (n128 + (1 : Int))) w144 < μ1 n128 w127))
 (∃ n177 : Int, w127.cell? ⟨b23, 7, none⟩ = some (.int .i64 n177) ∧
 Calls Tryz.prog fn_eval_engine_leave #[.pointer (some ⟨b124, 0, none⟩), .int .i64 n177] w127 fun e178 w179 => ∃ n180 n181 : Int, ∃ s182 s183 s184 : Sl, ∃ t185 t186 : ByteArray, ∃ n187 n188 : Int, ∃ n189 n190 n191 : Int, ∃ b192 : Bool, ∃ n193 : Int, e178 = .returned (.tuple #[.agg #[.int .i64 n180, .int .i64 n181, s182.val, s183.val, s184.val, .string t185, .string t186, .int .i64 n187, .int .i64 n188, .int .i64 n189], .agg #[.int .i64 n190, .int .i64 n191, .bool b192], .int .i64 n193]) ∧
 wrOk w179 ⟨b27, 0, none⟩ 10 ∧ ∀ w194 : World, w194 = stW w179 ⟨b27, 0, none⟩ 0 [.int .i64 n180, .int .i64 n181, s182.val, s183.val, s184.val, .string t185, .string t186, .int .i64 n187, .int .i64 n188, .int .i64 n189] →
 wrOk w194 ⟨b29, 0, none⟩ 3 ∧ ∀ w195 : World, w195 = stW w194 ⟨b29, 0, none⟩ 0 [.int .i64 n190, .int .i64 n191, .bool b192] →
 ∃ r196 r197 : Int, ∃ r198 r199 r200 : Sl, ∃ r201 r202 : ByteArray, ∃ r203 r204 r205 : Int, w195.cell? ⟨b27, 0, none⟩ = some (.int .i64 r196) ∧ w195.cell? ⟨b27, 1, none⟩ = some (.int .i64 r197) ∧ w195.cell? ⟨b27, 2, none⟩ = some (r198.val) ∧ w195.cell? ⟨b27, 3, none⟩ = some (r199.val) ∧ w195.cell? ⟨b27, 4, none⟩ = some (r200.val) ∧ w195.cell? ⟨b27, 5, none⟩ = some (.string r201) ∧ w195.cell? ⟨b27, 6, none⟩ = some (.string r202) ∧ w195.cell? ⟨b27, 7, none⟩ = some (.int .i64 r203) ∧ w195.cell? ⟨b27, 8, none⟩ = some (.int .i64 r204) ∧ w195.cell? ⟨b27, 9, none⟩ = some (.int .i64 r205) ∧
 ∃ r206 r207 : Int, ∃ r208 : Bool, w195.cell? ⟨b29, 0, none⟩ = some (.int .i64 r206) ∧ w195.cell? ⟨b29, 1, none⟩ = some (.int .i64 r207) ∧ w195.cell? ⟨b29, 2, none⟩ = some (.bool r208) ∧
 K (.tuple #[.agg #[.int .i64 r196, .int .i64 r197, r198.val, r199.val, r200.val, .string r201, .string r202, .int .i64 r203, .int .i64 r204, .int .i64 r205], .agg #[.int .i64 r206, .int .i64 r207, .bool r208], .int .i64 n193]) w195))
def eval_Through_an : An := ⟨[(6, [(36, .int .i64)])], [(4, (6, .st 0 (.st 1 (.st 2 (.st 4 (.st 5 (.ef 3 .done))))), 1))], []⟩
theorem eval_Through_lift {t1 : Int} {t2 : Int} {t3 : Int} {t4 : Int} {t5 : Int} {t6 : Sl} {t7 : Sl} {t8 : Int} {t9 : Sl} {s10 : Int} {s11 : Int} {s12 : Sl} {s13 : Sl} {s14 : Sl} {s15 : ByteArray} {s16 : ByteArray} {s17 : Int} {s18 : Int} {s19 : Int} {at_20 : Sl} {n_21 : Int} {watched22 : Sl} {w : World} {K : Value → World → Prop} (h : eval_Through_sh t1 t2 t3 t4 t5 t6 t7 t8 t9 s10 s11 s12 s13 s14 s15 s16 s17 s18 s19 at_20 n_21 watched22 w K) : Calls Tryz.prog fn_eval_Through #[.agg #[.int .i64 t1, .int .i64 t2, .int .i64 t3, .int .i64 t4, .int .i64 t5, t6.val, t7.val, .int .i64 t8, t9.val], .agg #[.int .i64 s10, .int .i64 s11, s12.val, s13.val, s14.val, .string s15, .string s16, .int .i64 s17, .int .i64 s18, .int .i64 s19], at_20.val, .int .i64 n_21, watched22.val] w fun e w' => ∃ v, e = .returned v ∧ K v w' :=
   lift_calls (A := eval_Through_an) (c := bodyOf Tryz.f53) (args := [.agg #[.int .i64 t1, .int .i64 t2, .int .i64 t3, .int .i64 t4, .int .i64 t5, t6.val, t7.val, .int .i64 t8, t9.val], .agg #[.int .i64 s10, .int .i64 s11, s12.val, s13.val, s14.val, .string s15, .string s16, .int .i64 s17, .int .i64 s18, .int .i64 s19], at_20.val, .int .i64 n_21, watched22.val]) orc orc_wide Tryz.func53 (by kernel_rfl) (by kernel_rfl) (Eq.mp (by kernel_rfl : eval_Through_sh t1 t2 t3 t4 t5 t6 t7 t8 t9 s10 s11 s12 s13 s14 s15 s16 s17 s18 s19 at_20 n_21 watched22 w K = wpc orc Tryz.f53.ntmps eval_Through_an (bodyOf Tryz.f53) (argl 0 [.agg #[.int .i64 t1, .int .i64 t2, .int .i64 t3, .int .i64 t4, .int .i64 t5, t6.val, t7.val, .int .i64 t8, t9.val], .agg #[.int .i64 s10, .int .i64 s11, s12.val, s13.val, s14.val, .string s15, .string s16, .int .i64 s17, .int .i64 s18, .int .i64 s19], at_20.val, .int .i64 n_21, watched22.val]) w (retQ orc Tryz.f53.results.toList K)) h)

def eval_engine_ins_j1 (b8 : Nat) (e_1 : Nat) (place2 : Int) (n10 : Int) (J4 : World → Prop) (b14 : Bool) (w13 : World) (K : Value → World → Prop) : Prop :=
 brB b14
 (∃ n45 n46 : Int, ∃ n47 n48 n49 : Int, w13.cell? ⟨b8, 0, none⟩ = some (.int .i64 n45) ∧ w13.cell? ⟨b8, 1, none⟩ = some (.int .i64 n46) ∧ w13.cell? ⟨b8, 2, none⟩ = some (.int .i64 n47) ∧ w13.cell? ⟨b8, 3, none⟩ = some (.int .i64 n48) ∧ w13.cell? ⟨b8, 4, none⟩ = some (.int .i64 n49) ∧
 Calls Tryz.prog fn_eval_engine_memory #[.pointer (some ⟨e_1, 0, none⟩), .int .i64 place2, .agg #[.int .i64 n45, .int .i64 n46, .int .i64 n47, .int .i64 n48, .int .i64 n49]] w13 fun e50 w51 => ∃ n52 : Int, e50 = .returned (.int .i64 n52) ∧
 K (.int .i64 n52) w51)
 (brB (n10 == (7 : Int))
 (∀ w53 : World, w53 = World.drew w13 →
 ∃ S54 : World → Prop, S54 w53 ∧
 ∃ n55 : Int, held S54 ⟨b8, 2, none⟩ (.int .i64 n55) ∧
 ∃ n56 : Int, held S54 ⟨b8, 4, none⟩ (.int .i64 n56) ∧
 Calls Tryz.prog fn_eval_engine_value #[.pointer (some ⟨e_1, 0, none⟩), .int .i64 n55] w53 fun e57 w58 => ∃ n59 : Int, e57 = .returned (.int .i64 n59) ∧
 S54 w58 ∧
 Calls Tryz.prog fn_eval_must #[.bool (n59 != (0 : Int)), .int .i64 n56] w58 fun e60 w61 => ∃ n62 : Int, e60 = .returned (.int .i64 n62) ∧
 K (.int .i64 n62) w61)
 (brB (n10 == (8 : Int))
 (∀ w63 : World, w63 = World.drew w13 →
 ∃ S64 : World → Prop, S64 w63 ∧
 ∃ n65 : Int, held S64 ⟨b8, 2, none⟩ (.int .i64 n65) ∧
 ∃ n66 : Int, held S64 ⟨b8, 4, none⟩ (.int .i64 n66) ∧
 Calls Tryz.prog fn_eval_engine_value #[.pointer (some ⟨e_1, 0, none⟩), .int .i64 n65] w63 fun e67 w68 => ∃ n69 : Int, e67 = .returned (.int .i64 n69) ∧
 S64 w68 ∧
 Calls Tryz.prog fn_eval_must #[.bool (n69 == (0 : Int)), .int .i64 n66] w68 fun e70 w71 => ∃ n72 : Int, e70 = .returned (.int .i64 n72) ∧
 K (.int .i64 n72) w71)
 (brB (n10 == (9 : Int))
 (∀ w73 : World, w73 = World.drew w13 →
 ∃ S74 : World → Prop, S74 w73 ∧
 ∃ n75 : Int, held S74 ⟨b8, 2, none⟩ (.int .i64 n75) ∧
 ∃ n76 : Int, held S74 ⟨b8, 3, none⟩ (.int .i64 n76) ∧
 ∃ n77 : Int, held S74 ⟨b8, 4, none⟩ (.int .i64 n77) ∧
 Calls Tryz.prog fn_eval_engine_value #[.pointer (some ⟨e_1, 0, none⟩), .int .i64 n75] w73 fun e78 w79 => ∃ n80 : Int, e78 = .returned (.int .i64 n80) ∧
 S74 w79 ∧
 Calls Tryz.prog fn_eval_engine_value #[.pointer (some ⟨e_1, 0, none⟩), .int .i64 n76] w79 fun e81 w82 => ∃ n83 : Int, e81 = .returned (.int .i64 n83) ∧
 S74 w82 ∧
 Calls Tryz.prog fn_eval_must #[.bool (n80 == n83), .int .i64 n77] w82 fun e84 w85 => ∃ n86 : Int, e84 = .returned (.int .i64 n86) ∧
 K (.int .i64 n86) w85)
 (brB (n10 == (10 : Int))
 (J4  w13)
 (brB (n10 == (11 : Int))
 (J4  w13)
 (Calls Tryz.prog fn_eval_engine_ask #[.pointer (some ⟨e_1, 0, none⟩), .int .i64 place2] w13 fun e96 w97 => ∃ n98 : Int, e96 = .returned (.int .i64 n98) ∧
 K (.int .i64 n98) w97))))))
def eval_engine_ins_sh (e_1 : Nat) (place2 : Int) (i3 : Int) (i4 : Int) (i5 : Int) (i6 : Int) (i7 : Int) (w : World) (K : Value → World → Prop) : Prop :=
 ∀ (b8 : Nat) (w9 : World), b8 = w.heap.size → w9 = World.alloc w (.cells #[.int .i64 i3, .int .i64 i4, .int .i64 i5, .int .i64 i6, .int .i64 i7] T_api_Ins) →
 ∃ n10 : Int, w9.cell? ⟨b8, 0, none⟩ = some (.int .i64 n10) ∧
 ∃ J4 : World → Prop, (∀ (w87 : World), J4  w87 →
 ∃ n88 n89 : Int, ∃ n90 n91 n92 : Int, w87.cell? ⟨b8, 0, none⟩ = some (.int .i64 n88) ∧ w87.cell? ⟨b8, 1, none⟩ = some (.int .i64 n89) ∧ w87.cell? ⟨b8, 2, none⟩ = some (.int .i64 n90) ∧ w87.cell? ⟨b8, 3, none⟩ = some (.int .i64 n91) ∧ w87.cell? ⟨b8, 4, none⟩ = some (.int .i64 n92) ∧
 Calls Tryz.prog fn_eval_engine_say #[.pointer (some ⟨e_1, 0, none⟩), .agg #[.int .i64 n88, .int .i64 n89, .int .i64 n90, .int .i64 n91, .int .i64 n92]] w87 fun e93 w94 => ∃ n95 : Int, e93 = .returned (.int .i64 n95) ∧
 K (.int .i64 n95) w94) ∧
 brB (n10 == (1 : Int))
 (∃ n15 : Int, w9.cell? ⟨b8, 1, none⟩ = some (.int .i64 n15) ∧
 Calls Tryz.prog fn_eval_engine_set #[.pointer (some ⟨e_1, 0, none⟩), .int .i64 place2, .int .i64 n15] w9 fun e16 w17 => ∃ n18 : Int, e16 = .returned (.int .i64 n18) ∧
 K (.int .i64 n18) w17)
 (brB (n10 == (2 : Int))
 (∀ w19 : World, w19 = World.drew w9 →
 ∃ s20 : Sl, held (Lw w19) ⟨e_1, 11, none⟩ (s20.val) ∧
 ∃ s21 : Sl, held (Lw w19) ⟨e_1, 11, none⟩ (s21.val) ∧
 ∃ n22 : Int, held (Lw w19) ⟨b8, 1, none⟩ (.int .i64 n22) ∧
 ∃ a23 : Addr, s20.ptr = some a23 ∧ 0 ≤ (wr ((wr ((s21.len : Int) - (1 : Int))) - n22)) ∧ (wr ((wr ((s21.len : Int) - (1 : Int))) - n22)) < (s20.len : Int) ∧
 ∃ n24 : Int, held (Lw w19) (Addr.add a23 (Int.toNat (wr ((wr ((s21.len : Int) - (1 : Int))) - n22)) * 1)) (.int .i64 n24) ∧
 Calls Tryz.prog fn_eval_engine_set #[.pointer (some ⟨e_1, 0, none⟩), .int .i64 place2, .int .i64 n24] w19 fun e25 w26 => ∃ n27 : Int, e25 = .returned (.int .i64 n27) ∧
 K (.int .i64 n27) w26)
 (brB (n10 == (3 : Int))
 (∀ w28 : World, w28 = World.drew w9 →
 ∃ s29 : Sl, held (Lw w28) ⟨e_1, 12, none⟩ (s29.val) ∧
 ∃ s30 : Sl, held (Lw w28) ⟨e_1, 12, none⟩ (s30.val) ∧
 ∃ n31 : Int, held (Lw w28) ⟨b8, 1, none⟩ (.int .i64 n31) ∧
 ∃ a32 : Addr, s29.ptr = some a32 ∧ 0 ≤ (wr ((wr ((s30.len : Int) - (1 : Int))) - n31)) ∧ (wr ((wr ((s30.len : Int) - (1 : Int))) - n31)) < (s29.len : Int) ∧
 ∃ n33 : Int, held (Lw w28) (Addr.add a32 (Int.toNat (wr ((wr ((s30.len : Int) - (1 : Int))) - n31)) * 1)) (.int .i64 n33) ∧
 Calls Tryz.prog fn_eval_engine_set #[.pointer (some ⟨e_1, 0, none⟩), .int .i64 place2, .int .i64 n33] w28 fun e34 w35 => ∃ n36 : Int, e34 = .returned (.int .i64 n36) ∧
 K (.int .i64 n36) w35)
 (brB (n10 == (4 : Int))
 (∃ n37 n38 : Int, ∃ n39 n40 n41 : Int, w9.cell? ⟨b8, 0, none⟩ = some (.int .i64 n37) ∧ w9.cell? ⟨b8, 1, none⟩ = some (.int .i64 n38) ∧ w9.cell? ⟨b8, 2, none⟩ = some (.int .i64 n39) ∧ w9.cell? ⟨b8, 3, none⟩ = some (.int .i64 n40) ∧ w9.cell? ⟨b8, 4, none⟩ = some (.int .i64 n41) ∧
 Calls Tryz.prog fn_eval_engine_calc #[.pointer (some ⟨e_1, 0, none⟩), .int .i64 place2, .agg #[.int .i64 n37, .int .i64 n38, .int .i64 n39, .int .i64 n40, .int .i64 n41]] w9 fun e42 w43 => ∃ n44 : Int, e42 = .returned (.int .i64 n44) ∧
 K (.int .i64 n44) w43)
 (brB (n10 == (5 : Int))
 (eval_engine_ins_j1 b8 e_1 place2 n10 J4 (n10 == (5 : Int)) w9 K)
 (eval_engine_ins_j1 b8 e_1 place2 n10 J4 (n10 == (6 : Int)) w9 K)))))
def eval_engine_ins_an : An := ⟨[], [(14, (19, .st 0 (.st 1 (.st 2 (.st 3 (.st 4 (.st 5 (.st 6 (.st 7 (.st 8 (.st 9 (.st 10 (.st 11 (.st 12 (.st 13 (.st 14 (.st 15 (.st 16 (.st 17 (.st 18 .done)))))))))))))))))), 0)), (15, (19, .st 0 (.st 1 (.st 2 (.st 3 (.st 4 (.st 5 (.st 6 (.st 7 (.st 8 (.st 9 (.st 10 (.st 11 (.st 12 (.st 13 (.st 14 (.st 15 (.st 16 (.st 17 (.st 18 .done)))))))))))))))))), 0)), (18, (7, .st 0 (.st 1 (.st 2 (.st 5 (.st 6 (.ef 3 (.st 4 .done)))))), 1)), (19, (7, .st 0 (.st 1 (.st 2 (.st 5 (.st 6 (.ef 3 (.st 4 .done)))))), 1)), (20, (11, .st 0 (.st 1 (.st 2 (.st 4 (.st 5 (.st 6 (.st 9 (.st 10 (.ef 3 (.ef 7 (.st 8 .done)))))))))), 1))], [(21, [])]⟩
theorem eval_engine_ins_lift {e_1 : Nat} {place2 : Int} {i3 : Int} {i4 : Int} {i5 : Int} {i6 : Int} {i7 : Int} {w : World} {K : Value → World → Prop} (h : eval_engine_ins_sh e_1 place2 i3 i4 i5 i6 i7 w K) : Calls Tryz.prog fn_eval_engine_ins #[.pointer (some ⟨e_1, 0, none⟩), .int .i64 place2, .agg #[.int .i64 i3, .int .i64 i4, .int .i64 i5, .int .i64 i6, .int .i64 i7]] w fun e w' => ∃ v, e = .returned v ∧ K v w' :=
   lift_calls (A := eval_engine_ins_an) (c := bodyOf Tryz.f103) (args := [.pointer (some ⟨e_1, 0, none⟩), .int .i64 place2, .agg #[.int .i64 i3, .int .i64 i4, .int .i64 i5, .int .i64 i6, .int .i64 i7]]) orc orc_wide Tryz.func103 (by kernel_rfl) (by kernel_rfl) (Eq.mp (by kernel_rfl : eval_engine_ins_sh e_1 place2 i3 i4 i5 i6 i7 w K = wpc orc Tryz.f103.ntmps eval_engine_ins_an (bodyOf Tryz.f103) (argl 0 [.pointer (some ⟨e_1, 0, none⟩), .int .i64 place2, .agg #[.int .i64 i3, .int .i64 i4, .int .i64 i5, .int .i64 i6, .int .i64 i7]]) w (retQ orc Tryz.f103.results.toList K)) h)

def eval_engine_leave_j1 (b3 : Nat) (b5 : Nat) (n64 : Int) (w84 : World) (K : Value → World → Prop) : Prop :=
 ∃ r85 r86 : Int, ∃ r87 r88 r89 : Sl, ∃ r90 r91 : ByteArray, ∃ r92 r93 r94 : Int, w84.cell? ⟨b3, 0, none⟩ = some (.int .i64 r85) ∧ w84.cell? ⟨b3, 1, none⟩ = some (.int .i64 r86) ∧ w84.cell? ⟨b3, 2, none⟩ = some (r87.val) ∧ w84.cell? ⟨b3, 3, none⟩ = some (r88.val) ∧ w84.cell? ⟨b3, 4, none⟩ = some (r89.val) ∧ w84.cell? ⟨b3, 5, none⟩ = some (.string r90) ∧ w84.cell? ⟨b3, 6, none⟩ = some (.string r91) ∧ w84.cell? ⟨b3, 7, none⟩ = some (.int .i64 r92) ∧ w84.cell? ⟨b3, 8, none⟩ = some (.int .i64 r93) ∧ w84.cell? ⟨b3, 9, none⟩ = some (.int .i64 r94) ∧
 ∃ r95 r96 : Int, ∃ r97 : Bool, w84.cell? ⟨b5, 0, none⟩ = some (.int .i64 r95) ∧ w84.cell? ⟨b5, 1, none⟩ = some (.int .i64 r96) ∧ w84.cell? ⟨b5, 2, none⟩ = some (.bool r97) ∧
 K (.tuple #[.agg #[.int .i64 r85, .int .i64 r86, r87.val, r88.val, r89.val, .string r90, .string r91, .int .i64 r92, .int .i64 r93, .int .i64 r94], .agg #[.int .i64 r95, .int .i64 r96, .bool r97], .int .i64 n64]) w84
def eval_engine_leave_sh (e_1 : Nat) (x_2 : Int) (w : World) (K : Value → World → Prop) : Prop :=
 ∀ (b3 : Nat) (w4 : World), b3 = w.heap.size → w4 = World.alloc w (.cells #[.int .i64 (0 : Int), .int .i64 (0 : Int), .slice none 0 0, .slice none 0 0, .slice none 0 0, .string (bs []), .string (bs []), .int .i64 (0 : Int), .int .i64 (0 : Int), .int .i64 (0 : Int)] T_api_State) →
 ∀ (b5 : Nat) (w6 : World), b5 = w4.heap.size → w6 = World.alloc w4 (.cells #[.int .i64 (0 : Int), .int .i64 (0 : Int), .bool false] T_eval_Done) →
 ∃ s7 : Sl, w6.cell? ⟨e_1, 6, none⟩ = some (s7.val) ∧
 ∃ a8 : Addr, s7.ptr = some a8 ∧ 0 ≤ x_2 ∧ x_2 < (s7.len : Int) ∧
 ∃ n9 n10 : Int, ∃ s11 s12 : Sl, w6.cell? (Addr.add a8 (Int.toNat x_2 * 4)) = some (.int .i64 n9) ∧ w6.cell? (Addr.add (Addr.add a8 (Int.toNat x_2 * 4)) 1) = some (.int .i64 n10) ∧ w6.cell? (Addr.add (Addr.add a8 (Int.toNat x_2 * 4)) 2) = some (s11.val) ∧ w6.cell? (Addr.add (Addr.add a8 (Int.toNat x_2 * 4)) 3) = some (s12.val) ∧
 ∀ (b13 : Nat) (w14 : World), b13 = w6.heap.size → w14 = World.alloc w6 (.cells #[.int .i64 (0 : Int), .int .i64 (0 : Int), .slice none 0 0, .slice none 0 0] T_api_Out) →
 wrOk w14 ⟨b13, 0, none⟩ 4 ∧ ∀ w15 : World, w15 = stW w14 ⟨b13, 0, none⟩ 0 [.int .i64 n9, .int .i64 n10, s11.val, s12.val] →
 ∃ n16 : Int, w15.cell? ⟨b13, 0, none⟩ = some (.int .i64 n16) ∧
 wrOk w15 ⟨e_1, 9, none⟩ 1 ∧ ∀ w17 : World, w17 = stW w15 ⟨e_1, 9, none⟩ 0 [.int .i64 n16] →
 ∀ w18 : World, w18 = World.drew w17 →
 ∃ s19 : Sl, held (Lw w18) ⟨e_1, 11, none⟩ (s19.val) ∧
 ∃ s20 : Sl, held (Lw w18) ⟨e_1, 11, none⟩ (s20.val) ∧
 ∃ n21 : Int, held (Lw w18) ⟨e_1, 1, none⟩ (.int .i64 n21) ∧
 0 ≤ (wr ((s20.len : Int) - n21)) ∧ (wr ((s20.len : Int) - n21)) ≤ (s19.cap : Int) ∧ 
 ∀ w22 : World, w22 = World.drew w18 →
 ∃ s23 : Sl, held (Lw w22) ⟨e_1, 12, none⟩ (s23.val) ∧
 ∃ s24 : Sl, held (Lw w22) ⟨e_1, 12, none⟩ (s24.val) ∧
 ∃ n25 : Int, held (Lw w22) ⟨e_1, 2, none⟩ (.int .i64 n25) ∧
 0 ≤ (wr ((s24.len : Int) - n25)) ∧ (wr ((s24.len : Int) - n25)) ≤ (s23.cap : Int) ∧ 
 ∀ w26 : World, w26 = World.drew w22 →
 ∃ S27 : World → Prop, S27 w26 ∧
 ∃ s28 : Sl, held S27 ⟨b13, 2, none⟩ (s28.val) ∧
 Calls Tryz.prog fn_slices_Clone_sl_int_int #[(Sl.sub s19.ptr s19.cap 0 (Int.toNat (wr ((s20.len : Int) - n21))) 1).val] w26 fun e29 w30 => ∃ s31 : Sl, e29 = .returned (s31.val) ∧
 S27 w30 ∧
 Calls Tryz.prog fn_eval_engine_values #[.pointer (some ⟨e_1, 0, none⟩), s28.val] w30 fun e32 w33 => ∃ s34 : Sl, e32 = .returned (s34.val) ∧
 S27 w33 ∧
 ∃ s35 : Sl, ∃ w36 : World, (Builtin.append_ #[T_sl_int, T_sl_int] T_sl_int #[s31.val, s34.val]).run Tryz.prog w33 = .ok (s35.val) w36 ∧
 S27 w36 ∧
 wrOk w36 ⟨e_1, 11, none⟩ 1 ∧ ∀ w37 : World, w37 = stW w36 ⟨e_1, 11, none⟩ 0 [s35.val] →
 ∀ w38 : World, w38 = World.drew w37 →
 ∃ S39 : World → Prop, S39 w38 ∧
 ∃ s40 : Sl, held S39 ⟨b13, 3, none⟩ (s40.val) ∧
 Calls Tryz.prog fn_slices_Clone_sl_int_int #[(Sl.sub s23.ptr s23.cap 0 (Int.toNat (wr ((s24.len : Int) - n25))) 1).val] w38 fun e41 w42 => ∃ s43 : Sl, e41 = .returned (s43.val) ∧
 S39 w42 ∧
 Calls Tryz.prog fn_eval_engine_values #[.pointer (some ⟨e_1, 0, none⟩), s40.val] w42 fun e44 w45 => ∃ s46 : Sl, e44 = .returned (s46.val) ∧
 S39 w45 ∧
 ∃ s47 : Sl, ∃ w48 : World, (Builtin.append_ #[T_sl_int, T_sl_int] T_sl_int #[s43.val, s46.val]).run Tryz.prog w45 = .ok (s47.val) w48 ∧
 S39 w48 ∧
 wrOk w48 ⟨e_1, 12, none⟩ 1 ∧ ∀ w49 : World, w49 = stW w48 ⟨e_1, 12, none⟩ 0 [s47.val] →
 ∀ w50 : World, w50 = World.drew w49 →
 ∃ S51 : World → Prop, S51 w50 ∧
 ∃ n52 n53 : Int, ∃ s54 s55 s56 : Sl, ∃ t57 t58 : ByteArray, ∃ n59 n60 n61 : Int, held S51 ⟨e_1, 9, none⟩ (.int .i64 n52) ∧ held S51 ⟨e_1, 10, none⟩ (.int .i64 n53) ∧ held S51 ⟨e_1, 11, none⟩ (s54.val) ∧ held S51 ⟨e_1, 12, none⟩ (s55.val) ∧ held S51 ⟨e_1, 13, none⟩ (s56.val) ∧ held S51 ⟨e_1, 14, none⟩ (.string t57) ∧ held S51 ⟨e_1, 15, none⟩ (.string t58) ∧ held S51 ⟨e_1, 16, none⟩ (.int .i64 n59) ∧ held S51 ⟨e_1, 17, none⟩ (.int .i64 n60) ∧ held S51 ⟨e_1, 18, none⟩ (.int .i64 n61) ∧
 ∃ n62 : Int, held S51 ⟨b13, 1, none⟩ (.int .i64 n62) ∧
 ∃ n63 : Int, held S51 ⟨e_1, 22, none⟩ (.int .i64 n63) ∧
 ∃ n64 : Int, held S51 ⟨e_1, 22, none⟩ (.int .i64 n64) ∧
 (S51 w50 ∧
 wrOk w50 ⟨b3, 0, none⟩ 10 ∧ ∀ w65 : World, w65 = stW w50 ⟨b3, 0, none⟩ 0 [.int .i64 n52, .int .i64 n53, s54.val, s55.val, s56.val, .string t57, .string t58, .int .i64 n59, .int .i64 n60, .int .i64 n61] →
 S51 w65 ∧
 wrOk w65 ⟨b5, 0, none⟩ 3 ∧ ∀ w66 : World, w66 = stW w65 ⟨b5, 0, none⟩ 0 [.int .i64 x_2, .int .i64 n62, .bool (decide (n63 ≥ (0 : Int)))] →
 S51 w66 ∧
 eval_engine_leave_j1 b3 b5 n64 w66 K) ∧
 (wrOk w50 ⟨b3, 0, none⟩ 10 ∧ ∀ w67 : World, w67 = stW w50 ⟨b3, 0, none⟩ 0 [.int .i64 n52, .int .i64 n53, s54.val, s55.val, s56.val, .string t57, .string t58, .int .i64 n59, .int .i64 n60, .int .i64 n61] →
 S51 w67 ∧
 S51 w67 ∧
 wrOk w67 ⟨b5, 0, none⟩ 3 ∧ ∀ w68 : World, w68 = stW w67 ⟨b5, 0, none⟩ 0 [.int .i64 x_2, .int .i64 n62, .bool (decide (n63 ≥ (0 : Int)))] →
 S51 w68 ∧
 eval_engine_leave_j1 b3 b5 n64 w68 K)
def eval_engine_leave_an : An := ⟨[], [(3, (19, .st 0 (.st 1 (.st 2 (.st 3 (.st 4 (.st 5 (.st 6 (.st 7 (.st 8 (.st 9 (.st 10 (.st 11 (.st 12 (.st 13 (.st 14 (.st 15 (.st 16 (.st 17 (.st 18 .done)))))))))))))))))), 0)), (4, (19, .st 0 (.st 1 (.st 2 (.st 3 (.st 4 (.st 5 (.st 6 (.st 7 (.st 8 (.st 9 (.st 10 (.st 11 (.st 12 (.st 13 (.st 14 (.st 15 (.st 16 (.st 17 (.st 18 .done)))))))))))))))))), 0)), (5, (8, .st 0 (.st 1 (.st 3 (.st 4 (.st 5 (.ef 2 (.ef 6 (.ef 7 .done))))))), 1)), (6, (8, .st 0 (.st 1 (.st 3 (.st 4 (.st 5 (.ef 2 (.ef 6 (.ef 7 .done))))))), 1)), (7, (19, .st 0 (.st 1 (.st 2 (.st 3 (.st 4 (.st 5 (.st 6 (.st 7 (.st 8 (.st 9 (.st 10 (.st 11 (.st 13 (.st 14 (.st 15 (.st 16 (.two 12 (.ef 17 (.ef 18 .done)) 17 (.ef 12 (.ef 18 .done)))))))))))))))))), 1))], []⟩
theorem eval_engine_leave_lift {e_1 : Nat} {x_2 : Int} {w : World} {K : Value → World → Prop} (h : eval_engine_leave_sh e_1 x_2 w K) : Calls Tryz.prog fn_eval_engine_leave #[.pointer (some ⟨e_1, 0, none⟩), .int .i64 x_2] w fun e w' => ∃ v, e = .returned v ∧ K v w' :=
   lift_calls (A := eval_engine_leave_an) (c := bodyOf Tryz.f104) (args := [.pointer (some ⟨e_1, 0, none⟩), .int .i64 x_2]) orc orc_wide Tryz.func104 (by kernel_rfl) (by kernel_rfl) (Eq.mp (by kernel_rfl : eval_engine_leave_sh e_1 x_2 w K = wpc orc Tryz.f104.ntmps eval_engine_leave_an (bodyOf Tryz.f104) (argl 0 [.pointer (some ⟨e_1, 0, none⟩), .int .i64 x_2]) w (retQ orc Tryz.f104.results.toList K)) h)

def eval_engine_set_sh (e_1 : Nat) (place2 : Int) (v_3 : Int) (w : World) (K : Value → World → Prop) : Prop :=
 ∀ w4 : World, w4 = World.drew w →
 ∃ s5 : Sl, held (Lw w4) ⟨e_1, 19, none⟩ (s5.val) ∧
 ∃ s6 : Sl, held (Lw w4) ⟨e_1, 20, none⟩ (s6.val) ∧
 ∃ a7 : Addr, s6.ptr = some a7 ∧ 0 ≤ place2 ∧ place2 < (s6.len : Int) ∧
 ∃ n8 : Int, held (Lw w4) (Addr.add a7 (Int.toNat place2 * 1)) (.int .i64 n8) ∧
 ∃ a9 : Addr, s5.ptr = some a9 ∧ 0 ≤ n8 ∧ n8 < (s5.len : Int) ∧
 wrOk w4 (Addr.add a9 (Int.toNat n8 * 1)) 1 ∧ ∀ w10 : World, w10 = stW w4 (Addr.add a9 (Int.toNat n8 * 1)) 0 [.int .i64 v_3] →
 K (.int .i64 (-1 : Int)) w10
def eval_engine_set_an : An := ⟨[], [(1, (13, .st 0 (.st 1 (.st 2 (.st 3 (.st 4 (.st 5 (.st 6 (.st 7 (.st 8 (.st 9 (.st 10 (.st 11 (.st 12 .done)))))))))))), 0))], []⟩
theorem eval_engine_set_lift {e_1 : Nat} {place2 : Int} {v_3 : Int} {w : World} {K : Value → World → Prop} (h : eval_engine_set_sh e_1 place2 v_3 w K) : Calls Tryz.prog fn_eval_engine_set #[.pointer (some ⟨e_1, 0, none⟩), .int .i64 place2, .int .i64 v_3] w fun e w' => ∃ v, e = .returned v ∧ K v w' :=
   lift_calls (A := eval_engine_set_an) (c := bodyOf Tryz.f131) (args := [.pointer (some ⟨e_1, 0, none⟩), .int .i64 place2, .int .i64 v_3]) orc orc_wide Tryz.func131 (by kernel_rfl) (by kernel_rfl) (Eq.mp (by kernel_rfl : eval_engine_set_sh e_1 place2 v_3 w K = wpc orc Tryz.f131.ntmps eval_engine_set_an (bodyOf Tryz.f131) (argl 0 [.pointer (some ⟨e_1, 0, none⟩), .int .i64 place2, .int .i64 v_3]) w (retQ orc Tryz.f131.results.toList K)) h)

def eval_engine_calc_sh (e_1 : Nat) (place2 : Int) (i3 : Int) (i4 : Int) (i5 : Int) (i6 : Int) (i7 : Int) (w : World) (K : Value → World → Prop) : Prop :=
 ∀ (b8 : Nat) (w9 : World), b8 = w.heap.size → w9 = World.alloc w (.cells #[.int .i64 i3, .int .i64 i4, .int .i64 i5, .int .i64 i6, .int .i64 i7] T_api_Ins) →
 ∃ n10 : Int, w9.cell? ⟨b8, 2, none⟩ = some (.int .i64 n10) ∧
 Calls Tryz.prog fn_eval_engine_value #[.pointer (some ⟨e_1, 0, none⟩), .int .i64 n10] w9 fun e11 w12 => ∃ n13 : Int, e11 = .returned (.int .i64 n13) ∧
 ∃ n14 : Int, w12.cell? ⟨b8, 1, none⟩ = some (.int .i64 n14) ∧
 Calls Tryz.prog fn_cell_One #[.int .i64 n14, .int .i64 n13] w12 fun e15 w16 => ∃ n17 : Int, ∃ b18 : Bool, e15 = .returned (.tuple #[.int .i64 n17, .bool b18]) ∧
 brB b18
 (Calls Tryz.prog fn_eval_engine_set #[.pointer (some ⟨e_1, 0, none⟩), .int .i64 place2, .int .i64 n17] w16 fun e19 w20 => ∃ n21 : Int, e19 = .returned (.int .i64 n21) ∧
 K (.int .i64 n21) w20)
 (∀ w22 : World, w22 = World.drew w16 →
 ∃ S23 : World → Prop, S23 w22 ∧
 ∃ n24 : Int, held S23 ⟨b8, 1, none⟩ (.int .i64 n24) ∧
 ∃ n25 : Int, held S23 ⟨b8, 3, none⟩ (.int .i64 n25) ∧
 Calls Tryz.prog fn_eval_engine_value #[.pointer (some ⟨e_1, 0, none⟩), .int .i64 n25] w22 fun e26 w27 => ∃ n28 : Int, e26 = .returned (.int .i64 n28) ∧
 S23 w27 ∧
 Calls Tryz.prog fn_cell_Two #[.int .i64 n24, .int .i64 n13, .int .i64 n28] w27 fun e29 w30 => ∃ n31 : Int, ∃ b32 : Bool, e29 = .returned (.tuple #[.int .i64 n31, .bool b32]) ∧
 S23 w30 ∧
 brB (!b32)
 (∃ n33 : Int, w30.cell? ⟨b8, 4, none⟩ = some (.int .i64 n33) ∧
 K (.int .i64 n33) w30)
 (Calls Tryz.prog fn_eval_engine_set #[.pointer (some ⟨e_1, 0, none⟩), .int .i64 place2, .int .i64 n31] w30 fun e34 w35 => ∃ n36 : Int, e34 = .returned (.int .i64 n36) ∧
 K (.int .i64 n36) w35))
def eval_engine_calc_an : An := ⟨[], [(5, (12, .st 0 (.st 1 (.st 2 (.st 3 (.st 4 (.st 5 (.ef 6 (.ef 7 (.st 8 (.st 9 (.st 10 (.st 11 .done))))))))))), 1))], []⟩
theorem eval_engine_calc_lift {e_1 : Nat} {place2 : Int} {i3 : Int} {i4 : Int} {i5 : Int} {i6 : Int} {i7 : Int} {w : World} {K : Value → World → Prop} (h : eval_engine_calc_sh e_1 place2 i3 i4 i5 i6 i7 w K) : Calls Tryz.prog fn_eval_engine_calc #[.pointer (some ⟨e_1, 0, none⟩), .int .i64 place2, .agg #[.int .i64 i3, .int .i64 i4, .int .i64 i5, .int .i64 i6, .int .i64 i7]] w fun e w' => ∃ v, e = .returned v ∧ K v w' :=
   lift_calls (A := eval_engine_calc_an) (c := bodyOf Tryz.f132) (args := [.pointer (some ⟨e_1, 0, none⟩), .int .i64 place2, .agg #[.int .i64 i3, .int .i64 i4, .int .i64 i5, .int .i64 i6, .int .i64 i7]]) orc orc_wide Tryz.func132 (by kernel_rfl) (by kernel_rfl) (Eq.mp (by kernel_rfl : eval_engine_calc_sh e_1 place2 i3 i4 i5 i6 i7 w K = wpc orc Tryz.f132.ntmps eval_engine_calc_an (bodyOf Tryz.f132) (argl 0 [.pointer (some ⟨e_1, 0, none⟩), .int .i64 place2, .agg #[.int .i64 i3, .int .i64 i4, .int .i64 i5, .int .i64 i6, .int .i64 i7]]) w (retQ orc Tryz.f132.results.toList K)) h)

def eval_engine_memory_sh (e_1 : Nat) (place2 : Int) (i3 : Int) (i4 : Int) (i5 : Int) (i6 : Int) (i7 : Int) (w : World) (K : Value → World → Prop) : Prop :=
 ∀ (b8 : Nat) (w9 : World), b8 = w.heap.size → w9 = World.alloc w (.cells #[.int .i64 i3, .int .i64 i4, .int .i64 i5, .int .i64 i6, .int .i64 i7] T_api_Ins) →
 ∃ n10 : Int, w9.cell? ⟨b8, 2, none⟩ = some (.int .i64 n10) ∧
 Calls Tryz.prog fn_eval_engine_value #[.pointer (some ⟨e_1, 0, none⟩), .int .i64 n10] w9 fun e11 w12 => ∃ n13 : Int, e11 = .returned (.int .i64 n13) ∧
 ∃ J4 : Bool → World → Prop, (∀ (b16 : Bool) (w15 : World), J4 b16 w15 →
 brB b16
 (∃ n17 : Int, w15.cell? ⟨b8, 4, none⟩ = some (.int .i64 n17) ∧
 K (.int .i64 n17) w15)
 (∃ n18 : Int, w15.cell? ⟨b8, 0, none⟩ = some (.int .i64 n18) ∧
 brB (n18 == (5 : Int))
 (∃ s19 : Sl, w15.cell? ⟨e_1, 13, none⟩ = some (s19.val) ∧
 ∃ a20 : Addr, s19.ptr = some a20 ∧ 0 ≤ n13 ∧ n13 < (s19.len : Int) ∧
 ∃ n21 : Int, w15.cell? (Addr.add a20 (Int.toNat n13 * 1)) = some (.int .i64 n21) ∧
 Calls Tryz.prog fn_eval_engine_set #[.pointer (some ⟨e_1, 0, none⟩), .int .i64 place2, .int .i64 n21] w15 fun e22 w23 => ∃ n24 : Int, e22 = .returned (.int .i64 n24) ∧
 K (.int .i64 n24) w23)
 (∀ w25 : World, w25 = World.drew w15 →
 ∃ S26 : World → Prop, S26 w25 ∧
 ∃ s27 : Sl, held S26 ⟨e_1, 13, none⟩ (s27.val) ∧
 ∃ n28 : Int, held S26 ⟨b8, 3, none⟩ (.int .i64 n28) ∧
 Calls Tryz.prog fn_eval_engine_value #[.pointer (some ⟨e_1, 0, none⟩), .int .i64 n28] w25 fun e29 w30 => ∃ n31 : Int, e29 = .returned (.int .i64 n31) ∧
 S26 w30 ∧
 ∃ a32 : Addr, s27.ptr = some a32 ∧ 0 ≤ n13 ∧ n13 < (s27.len : Int) ∧
 wrOk w30 (Addr.add a32 (Int.toNat n13 * 1)) 1 ∧ ∀ w33 : World, w33 = stW w30 (Addr.add a32 (Int.toNat n13 * 1)) 0 [.int .i64 n31] →
 ∃ s34 : Sl, w33.cell? ⟨e_1, 21, none⟩ = some (s34.val) ∧
 Calls Tryz.prog fn_slices_Contains_sl_int_int #[s34.val, .int .i64 n13] w33 fun e35 w36 => ∃ b37 : Bool, e35 = .returned (.bool b37) ∧
 brB b37
 (wrOk w36 ⟨e_1, 22, none⟩ 1 ∧ ∀ w38 : World, w38 = stW w36 ⟨e_1, 22, none⟩ 0 [.int .i64 n13] →
 ∃ n39 : Int, w38.cell? ⟨b8, 1, none⟩ = some (.int .i64 n39) ∧
 K (.int .i64 n39) w38)
 (K (.int .i64 (-1 : Int)) w36)))) ∧
 brB (decide (n13 < (0 : Int)))
 (J4 true w12)
 (∃ s14 : Sl, w12.cell? ⟨e_1, 13, none⟩ = some (s14.val) ∧
 J4 (decide (n13 ≥ (s14.len : Int))) w12)
def eval_engine_memory_an : An := ⟨[], [(6, (10, .st 0 (.st 1 (.st 2 (.st 3 (.st 4 (.st 5 (.st 6 (.st 7 (.st 8 (.ef 9 .done))))))))), 1))], [(3, [(12, .bool)])]⟩
theorem eval_engine_memory_lift {e_1 : Nat} {place2 : Int} {i3 : Int} {i4 : Int} {i5 : Int} {i6 : Int} {i7 : Int} {w : World} {K : Value → World → Prop} (h : eval_engine_memory_sh e_1 place2 i3 i4 i5 i6 i7 w K) : Calls Tryz.prog fn_eval_engine_memory #[.pointer (some ⟨e_1, 0, none⟩), .int .i64 place2, .agg #[.int .i64 i3, .int .i64 i4, .int .i64 i5, .int .i64 i6, .int .i64 i7]] w fun e w' => ∃ v, e = .returned v ∧ K v w' :=
   lift_calls (A := eval_engine_memory_an) (c := bodyOf Tryz.f133) (args := [.pointer (some ⟨e_1, 0, none⟩), .int .i64 place2, .agg #[.int .i64 i3, .int .i64 i4, .int .i64 i5, .int .i64 i6, .int .i64 i7]]) orc orc_wide Tryz.func133 (by kernel_rfl) (by kernel_rfl) (Eq.mp (by kernel_rfl : eval_engine_memory_sh e_1 place2 i3 i4 i5 i6 i7 w K = wpc orc Tryz.f133.ntmps eval_engine_memory_an (bodyOf Tryz.f133) (argl 0 [.pointer (some ⟨e_1, 0, none⟩), .int .i64 place2, .agg #[.int .i64 i3, .int .i64 i4, .int .i64 i5, .int .i64 i6, .int .i64 i7]]) w (retQ orc Tryz.f133.results.toList K)) h)

def eval_must_sh (is1 : Bool) (x_2 : Int) (w : World) (K : Value → World → Prop) : Prop :=
 brB is1
 (K (.int .i64 (-1 : Int)) w)
 (K (.int .i64 x_2) w)
def eval_must_an : An := ⟨[], [], []⟩
theorem eval_must_lift {is1 : Bool} {x_2 : Int} {w : World} {K : Value → World → Prop} (h : eval_must_sh is1 x_2 w K) : Calls Tryz.prog fn_eval_must #[.bool is1, .int .i64 x_2] w fun e w' => ∃ v, e = .returned v ∧ K v w' :=
   lift_calls (A := eval_must_an) (c := bodyOf Tryz.f134) (args := [.bool is1, .int .i64 x_2]) orc orc_wide Tryz.func134 (by kernel_rfl) (by kernel_rfl) (Eq.mp (by kernel_rfl : eval_must_sh is1 x_2 w K = wpc orc Tryz.f134.ntmps eval_must_an (bodyOf Tryz.f134) (argl 0 [.bool is1, .int .i64 x_2]) w (retQ orc Tryz.f134.results.toList K)) h)

def eval_engine_value_sh (e_1 : Nat) (place2 : Int) (w : World) (K : Value → World → Prop) : Prop :=
 ∀ w3 : World, w3 = World.drew w →
 ∃ s4 : Sl, held (Lw w3) ⟨e_1, 19, none⟩ (s4.val) ∧
 ∃ s5 : Sl, held (Lw w3) ⟨e_1, 20, none⟩ (s5.val) ∧
 ∃ a6 : Addr, s5.ptr = some a6 ∧ 0 ≤ place2 ∧ place2 < (s5.len : Int) ∧
 ∃ n7 : Int, held (Lw w3) (Addr.add a6 (Int.toNat place2 * 1)) (.int .i64 n7) ∧
 ∃ a8 : Addr, s4.ptr = some a8 ∧ 0 ≤ n7 ∧ n7 < (s4.len : Int) ∧
 ∃ n9 : Int, held (Lw w3) (Addr.add a8 (Int.toNat n7 * 1)) (.int .i64 n9) ∧
 K (.int .i64 n9) w3
def eval_engine_value_an : An := ⟨[], [(1, (14, .st 0 (.st 1 (.st 2 (.st 3 (.st 4 (.st 5 (.st 6 (.st 7 (.st 8 (.st 9 (.st 10 (.st 11 (.st 12 (.st 13 .done))))))))))))), 0))], []⟩
theorem eval_engine_value_lift {e_1 : Nat} {place2 : Int} {w : World} {K : Value → World → Prop} (h : eval_engine_value_sh e_1 place2 w K) : Calls Tryz.prog fn_eval_engine_value #[.pointer (some ⟨e_1, 0, none⟩), .int .i64 place2] w fun e w' => ∃ v, e = .returned v ∧ K v w' :=
   lift_calls (A := eval_engine_value_an) (c := bodyOf Tryz.f135) (args := [.pointer (some ⟨e_1, 0, none⟩), .int .i64 place2]) orc orc_wide Tryz.func135 (by kernel_rfl) (by kernel_rfl) (Eq.mp (by kernel_rfl : eval_engine_value_sh e_1 place2 w K = wpc orc Tryz.f135.ntmps eval_engine_value_an (bodyOf Tryz.f135) (argl 0 [.pointer (some ⟨e_1, 0, none⟩), .int .i64 place2]) w (retQ orc Tryz.f135.results.toList K)) h)

def eval_engine_say_sh (e_1 : Nat) (i2 : Int) (i3 : Int) (i4 : Int) (i5 : Int) (i6 : Int) (w : World) (K : Value → World → Prop) : Prop :=
 ∀ (b7 : Nat) (w8 : World), b7 = w.heap.size → w8 = World.alloc w (.cells #[.int .i64 i2, .int .i64 i3, .int .i64 i4, .int .i64 i5, .int .i64 i6] T_api_Ins) →
 ∃ n9 : Int, w8.cell? ⟨b7, 2, none⟩ = some (.int .i64 n9) ∧
 Calls Tryz.prog fn_eval_engine_value #[.pointer (some ⟨e_1, 0, none⟩), .int .i64 n9] w8 fun e10 w11 => ∃ n12 : Int, e10 = .returned (.int .i64 n12) ∧
 ∀ (b13 : Nat) (w14 : World), b13 = w11.heap.size → w14 = World.alloc w11 (.cells #[.int .u8 (IntKind.wrap .u8 n12)] T_uint8) →
 ∃ t15 : ByteArray, ∃ w16 : World, (convert T_sl_uint8 T_string (.slice (some ⟨b13, 0, none⟩) 1 1)).run Tryz.prog w14 = .ok (.string t15) w16 ∧
 ∃ J4 : ByteArray → World → Prop, (∀ (text23 : ByteArray) (w21 : World), J4 text23 w21 →
 ∃ t22 : ByteArray, w21.cell? ⟨e_1, 14, none⟩ = some (.string t22) ∧
 brB (decide ((wr ((t22.size : Int) + (text23.size : Int))) > (2000 : Int)))
 (∃ n24 : Int, w21.cell? ⟨b7, 4, none⟩ = some (.int .i64 n24) ∧
 K (.int .i64 n24) w21)
 (∃ t25 : ByteArray, w21.cell? ⟨e_1, 14, none⟩ = some (.string t25) ∧
 ((t25).size : Int) + ((text23).size : Int) ≤ 9223372036854775807 ∧ wrOk w21 ⟨e_1, 14, none⟩ 1 ∧ ∀ w26 : World, w26 = stW w21 ⟨e_1, 14, none⟩ 0 [.string (t25 ++ text23)] →
 K (.int .i64 (-1 : Int)) w26)) ∧
 ∃ n17 : Int, w16.cell? ⟨b7, 0, none⟩ = some (.int .i64 n17) ∧
 brB (n17 == (11 : Int))
 (Calls Tryz.prog fn_digits_Put #[.int .i64 n12, .int .i64 (10 : Int)] w16 fun e18 w19 => ∃ t20 : ByteArray, e18 = .returned (.string t20) ∧
 ((t20).size : Int) + (((bs [32])).size : Int) ≤ 9223372036854775807 ∧ J4 (t20 ++ (bs [32])) w19)
 (J4 t15 w16)
def eval_engine_say_an : An := ⟨[], [], [(5, [(6, .str)])]⟩
theorem eval_engine_say_lift {e_1 : Nat} {i2 : Int} {i3 : Int} {i4 : Int} {i5 : Int} {i6 : Int} {w : World} {K : Value → World → Prop} (h : eval_engine_say_sh e_1 i2 i3 i4 i5 i6 w K) : Calls Tryz.prog fn_eval_engine_say #[.pointer (some ⟨e_1, 0, none⟩), .agg #[.int .i64 i2, .int .i64 i3, .int .i64 i4, .int .i64 i5, .int .i64 i6]] w fun e w' => ∃ v, e = .returned v ∧ K v w' :=
   lift_calls (A := eval_engine_say_an) (c := bodyOf Tryz.f136) (args := [.pointer (some ⟨e_1, 0, none⟩), .agg #[.int .i64 i2, .int .i64 i3, .int .i64 i4, .int .i64 i5, .int .i64 i6]]) orc orc_wide Tryz.func136 (by kernel_rfl) (by kernel_rfl) (Eq.mp (by kernel_rfl : eval_engine_say_sh e_1 i2 i3 i4 i5 i6 w K = wpc orc Tryz.f136.ntmps eval_engine_say_an (bodyOf Tryz.f136) (argl 0 [.pointer (some ⟨e_1, 0, none⟩), .agg #[.int .i64 i2, .int .i64 i3, .int .i64 i4, .int .i64 i5, .int .i64 i6]]) w (retQ orc Tryz.f136.results.toList K)) h)

def eval_engine_ask_sh (e_1 : Nat) (place2 : Int) (w : World) (K : Value → World → Prop) : Prop :=
 ∀ w3 : World, w3 = World.drew w →
 ∃ n4 : Int, held (Lw w3) ⟨e_1, 16, none⟩ (.int .i64 n4) ∧
 ∃ t5 : ByteArray, held (Lw w3) ⟨e_1, 15, none⟩ (.string t5) ∧
 brB (decide (n4 ≥ (t5.size : Int)))
 (Calls Tryz.prog fn_eval_engine_set #[.pointer (some ⟨e_1, 0, none⟩), .int .i64 place2, .int .i64 (-1 : Int)] w3 fun e6 w7 => ∃ n8 : Int, e6 = .returned (.int .i64 n8) ∧
 K (.int .i64 n8) w7)
 (∃ n9 : Int, w3.cell? ⟨e_1, 16, none⟩ = some (.int .i64 n9) ∧
 wrOk w3 ⟨e_1, 16, none⟩ 1 ∧ ∀ w10 : World, w10 = stW w3 ⟨e_1, 16, none⟩ 0 [.int .i64 (wr (n9 + (1 : Int)))] →
 ∀ w11 : World, w11 = World.drew w10 →
 ∃ t12 : ByteArray, held (Lw w11) ⟨e_1, 15, none⟩ (.string t12) ∧
 ∃ n13 : Int, held (Lw w11) ⟨e_1, 16, none⟩ (.int .i64 n13) ∧
 0 ≤ (wr (n13 - (1 : Int))) ∧ (wr (n13 - (1 : Int))) < (t12.size : Int) ∧
 Calls Tryz.prog fn_eval_engine_set #[.pointer (some ⟨e_1, 0, none⟩), .int .i64 place2, .int .i64 (wr (sb t12 (wr (n13 - (1 : Int)))))] w11 fun e14 w15 => ∃ n16 : Int, e14 = .returned (.int .i64 n16) ∧
 K (.int .i64 n16) w15)
def eval_engine_ask_an : An := ⟨[], [(1, (12, .st 0 (.st 1 (.st 2 (.st 3 (.st 4 (.st 5 (.st 6 (.st 7 (.st 8 (.st 9 (.st 10 (.st 11 .done))))))))))), 0)), (4, (15, .st 0 (.st 1 (.st 2 (.st 3 (.st 4 (.st 5 (.st 6 (.st 7 (.st 8 (.st 9 (.st 10 (.st 11 (.st 12 (.st 13 (.st 14 .done)))))))))))))), 0))], []⟩
theorem eval_engine_ask_lift {e_1 : Nat} {place2 : Int} {w : World} {K : Value → World → Prop} (h : eval_engine_ask_sh e_1 place2 w K) : Calls Tryz.prog fn_eval_engine_ask #[.pointer (some ⟨e_1, 0, none⟩), .int .i64 place2] w fun e w' => ∃ v, e = .returned v ∧ K v w' :=
   lift_calls (A := eval_engine_ask_an) (c := bodyOf Tryz.f137) (args := [.pointer (some ⟨e_1, 0, none⟩), .int .i64 place2]) orc orc_wide Tryz.func137 (by kernel_rfl) (by kernel_rfl) (Eq.mp (by kernel_rfl : eval_engine_ask_sh e_1 place2 w K = wpc orc Tryz.f137.ntmps eval_engine_ask_an (bodyOf Tryz.f137) (argl 0 [.pointer (some ⟨e_1, 0, none⟩), .int .i64 place2]) w (retQ orc Tryz.f137.results.toList K)) h)

def eval_engine_values_sh (e_1 : Nat) (l_2 : Sl) (w : World) (K : Value → World → Prop) : Prop :=
 ∃ (I1 : Sl → Int → World → Prop) (μ1 : Sl → Int → World → Nat), I1 (⟨none, 0, 0⟩ : Sl) (0 : Int) w ∧ ∀ (out7 : Sl) (n4 : Int) (w3 : World), I1 out7 n4 w3 →
 brB (decide (n4 < (l_2.len : Int)))
 (∃ a5 : Addr, l_2.ptr = some a5 ∧ 0 ≤ n4 ∧ n4 < (l_2.len : Int) ∧
 ∃ n6 : Int, w3.cell? (Addr.add a5 (Int.toNat n4 * 1)) = some (.int .i64 n6) ∧
 Calls Tryz.prog fn_eval_engine_value #[.pointer (some ⟨e_1, 0, none⟩), .int .i64 n6] w3 fun e8 w9 => ∃ n10 : Int, e8 = .returned (.int .i64 n10) ∧
 ∀ (b11 : Nat) (w12 : World), b11 = w9.heap.size → w12 = World.alloc w9 (.cells #[.int .i64 n10] T_int) →
 ∃ s13 : Sl, ∃ w14 : World, (Builtin.append_ #[T_sl_int, T_sl_int] T_sl_int #[out7.val, .slice (some ⟨b11, 0, none⟩) 1 1]).run Tryz.prog w12 = .ok (s13.val) w14 ∧
 I1 s13 (wr (n4 + (1 : Int))) w14 ∧ μ1 s13 (wr (n4 + (1 : Int))) w14 < μ1 out7 n4 w3)
 (K (out7.val) w3)
def eval_engine_values_an : An := ⟨[(3, [(5, .sl), (10, .int .i64)])], [], []⟩
theorem eval_engine_values_lift {e_1 : Nat} {l_2 : Sl} {w : World} {K : Value → World → Prop} (h : eval_engine_values_sh e_1 l_2 w K) : Calls Tryz.prog fn_eval_engine_values #[.pointer (some ⟨e_1, 0, none⟩), l_2.val] w fun e w' => ∃ v, e = .returned v ∧ K v w' :=
   lift_calls (A := eval_engine_values_an) (c := bodyOf Tryz.f138) (args := [.pointer (some ⟨e_1, 0, none⟩), l_2.val]) orc orc_wide Tryz.func138 (by kernel_rfl) (by kernel_rfl) (Eq.mp (by kernel_rfl : eval_engine_values_sh e_1 l_2 w K = wpc orc Tryz.f138.ntmps eval_engine_values_an (bodyOf Tryz.f138) (argl 0 [.pointer (some ⟨e_1, 0, none⟩), l_2.val]) w (retQ orc Tryz.f138.results.toList K)) h)

end Go.Proofs.YtblmoilneiffgaaGreat

/- Functions of Hollowayref15, read without their frames; that each is enough. Printed by a program of mine (wip/lift/gen.py). -/
set_option maxRecDepth 100000
namespace Go.Proofs.YtblmoilneiffgaaGreat
open Go.RowKit

def hollowayref15_Right_sh (t1 : Int) (t2 : Int) (t3 : Int) (t4 : Int) (t5 : Int) (t6 : Sl) (t7 : Sl) (t8 : Int) (t9 : Sl) (w : World) (K : Value → World → Prop) : Prop :=
 ∀ (b10 : Nat) (w11 : World), b10 = w.heap.size → w11 = World.alloc w (.cells #[.int .i64 t1, .int .i64 t2, .int .i64 t3, .int .i64 t4, .int .i64 t5, t6.val, t7.val, .int .i64 t8, t9.val] T_api_Trace) →
 ∃ J3 : Bool → World → Prop, (∀ (b35 : Bool) (w34 : World), J3 b35 w34 →
 brB b35
 (K (.bool false) w34)
 (∃ (I1 : Int → World → Prop) (μ1 : Int → World → Nat), I1 (0 : Int) w34 ∧ ∀ (k37 : Int) (w36 : World), I1 k37 w36 →
 ∃ s38 : Sl, w36.cell? ⟨b10, 5, none⟩ = some (s38.val) ∧
 brB (decide (k37 < (s38.len : Int)))
 (∃ s39 : Sl, w36.cell? ⟨b10, 5, none⟩ = some (s39.val) ∧
 ∃ a40 : Addr, s39.ptr = some a40 ∧ 0 ≤ k37 ∧ k37 < (s39.len : Int) ∧
 ∃ n41 n42 : Int, ∃ n43 n44 n45 : Int, w36.cell? (Addr.add a40 (Int.toNat k37 * 5)) = some (.int .i64 n41) ∧ w36.cell? (Addr.add (Addr.add a40 (Int.toNat k37 * 5)) 1) = some (.int .i64 n42) ∧ w36.cell? (Addr.add (Addr.add a40 (Int.toNat k37 * 5)) 2) = some (.int .i64 n43) ∧ w36.cell? (Addr.add (Addr.add a40 (Int.toNat k37 * 5)) 3) = some (.int .i64 n44) ∧ w36.cell? (Addr.add (Addr.add a40 (Int.toNat k37 * 5)) 4) = some (.int .i64 n45) ∧
 ∀ (b46 : Nat) (w47 : World), b46 = w36.heap.size → w47 = World.alloc w36 (.cells #[.int .i64 (0 : Int), .int .i64 (0 : Int), .int .i64 (0 : Int), .int .i64 (0 : Int), .int .i64 (0 : Int)] T_api_Ins) →
 wrOk w47 ⟨b46, 0, none⟩ 5 ∧ ∀ w48 : World, w48 = stW w47 ⟨b46, 0, none⟩ 0 [.int .i64 n41, .int .i64 n42, .int .i64 n43, .int .i64 n44, .int .i64 n45] →
 ∃ J12 : Bool → World → Prop, (∀ (b357 : Bool) (w356 : World), J12 b357 w356 →
 brB b357
 (K (.bool false) w356)
 (∃ n358 n359 : Int, ∃ n360 n361 n362 : Int, w356.cell? ⟨b46, 0, none⟩ = some (.int .i64 n358) ∧ w356.cell? ⟨b46, 1, none⟩ = some (.int .i64 n359) ∧ w356.cell? ⟨b46, 2, none⟩ = some (.int .i64 n360) ∧ w356.cell? ⟨b46, 3, none⟩ = some (.int .i64 n361) ∧ w356.cell? ⟨b46, 4, none⟩ = some (.int .i64 n362) ∧
 Calls Tryz.prog fn_hollowayref15_Outs #[.agg #[.int .i64 n358, .int .i64 n359, .int .i64 n360, .int .i64 n361, .int .i64 n362]] w356 fun e363 w364 => ∃ s365 : Sl, e363 = .returned (s365.val) ∧
 ∃ (I2 : Int → World → Prop) (μ2 : Int → World → Nat), I2 (0 : Int) w364 ∧ ∀ (j367 : Int) (w366 : World), I2 j367 w366 →
 brB (decide (j367 < (s365.len : Int)))
 (∀ w368 : World, w368 = World.drew w366 →
 ∃ n369 n370 : Int, ∃ n371 n372 n373 : Int, ∃ s374 s375 : Sl, ∃ n376 : Int, ∃ s377 : Sl, held (Lw w368) ⟨b10, 0, none⟩ (.int .i64 n369) ∧ held (Lw w368) ⟨b10, 1, none⟩ (.int .i64 n370) ∧ held (Lw w368) ⟨b10, 2, none⟩ (.int .i64 n371) ∧ held (Lw w368) ⟨b10, 3, none⟩ (.int .i64 n372) ∧ held (Lw w368) ⟨b10, 4, none⟩ (.int .i64 n373) ∧ held (Lw w368) ⟨b10, 5, none⟩ (s374.val) ∧ held (Lw w368) ⟨b10, 6, none⟩ (s375.val) ∧ held (Lw w368) ⟨b10, 7, none⟩ (.int .i64 n376) ∧ held (Lw w368) ⟨b10, 8, none⟩ (s377.val) ∧
 ∃ a378 : Addr, s365.ptr = some a378 ∧ 0 ≤ j367 ∧ j367 < (s365.len : Int) ∧
 ∃ n379 : Int, held (Lw w368) (Addr.add a378 (Int.toNat j367 * 1)) (.int .i64 n379) ∧
 Calls Tryz.prog fn_hollowayref15_out #[.agg #[.int .i64 n369, .int .i64 n370, .int .i64 n371, .int .i64 n372, .int .i64 n373, s374.val, s375.val, .int .i64 n376, s377.val], .int .i64 n379, .int .i64 k37] w368 fun e380 w381 => ∃ b382 : Bool, e380 = .returned (.bool b382) ∧
 brB (!b382)
 (K (.bool false) w381)
 (I2 (wr (j367 + (1 : Int))) w381 ∧ μ2 (wr (j367 + (1 : Int))) w381 < μ2 j367 w366))
 (I1 (wr (k37 + (1 : Int))) w366 ∧ μ1 (wr (k37 + (1 : Int))) w366 < μ1 k37 w36))) ∧
 ∀ w49 : World, w49 = World.drew w48 →
 ∃ S50 : World → Prop, S50 w49 ∧
 ∃ n51 : Int, held S50 ⟨b46, 0, none⟩ (.int .i64 n51) ∧
 brB (decide (n51 < (1 : Int)))
 (J12 true w49)
 (∃ n52 : Int, held S50 ⟨b46, 0, none⟩ (.int .i64 n52) ∧
 brB (decide (n52 > (12 : Int)))
 (J12 true w49)
 (∃ n53 : Int, held S50 ⟨b46, 0, none⟩ (.int .i64 n53) ∧
 brB (n53 == (4 : Int))
 (∃ n54 : Int, held S50 ⟨b46, 1, none⟩ (.int .i64 n54) ∧
 Calls Tryz.prog fn_hollowayref1_IsTwo #[.int .i64 n54] w49 fun e55 w56 => ∃ b57 : Bool, e55 = .returned (.bool b57) ∧
 S50 w56 ∧
 brB (!b57)
 (∃ n58 : Int, held S50 ⟨b46, 1, none⟩ (.int .i64 n58) ∧
 Calls Tryz.prog fn_hollowayref1_IsOne #[.int .i64 n58] w56 fun e59 w60 => ∃ b61 : Bool, e59 = .returned (.bool b61) ∧
 S50 w60 ∧
 brB (!b61)
 (J12 true w60)
 (∃ n62 : Int, held S50 ⟨b46, 0, none⟩ (.int .i64 n62) ∧
 brB (n62 == (2 : Int))
 (∃ n63 : Int, held S50 ⟨b46, 1, none⟩ (.int .i64 n63) ∧
 ∃ n64 : Int, held S50 ⟨b10, 1, none⟩ (.int .i64 n64) ∧
 Calls Tryz.prog fn_hollowayref15_within #[.int .i64 n63, .int .i64 (wr (n64 - (1 : Int)))] w60 fun e65 w66 => ∃ b67 : Bool, e65 = .returned (.bool b67) ∧
 S50 w66 ∧
 brB (!b67)
 (J12 true w66)
 (∃ n68 : Int, held S50 ⟨b46, 0, none⟩ (.int .i64 n68) ∧
 brB (n68 == (3 : Int))
 (∃ n69 : Int, held S50 ⟨b46, 1, none⟩ (.int .i64 n69) ∧
 ∃ n70 : Int, held S50 ⟨b10, 2, none⟩ (.int .i64 n70) ∧
 Calls Tryz.prog fn_hollowayref15_within #[.int .i64 n69, .int .i64 (wr (n70 - (1 : Int)))] w66 fun e71 w72 => ∃ b73 : Bool, e71 = .returned (.bool b73) ∧
 S50 w72 ∧
 brB (!b73)
 (J12 true w72)
 (∃ n74 n75 : Int, ∃ n76 n77 n78 : Int, ∃ s79 s80 : Sl, ∃ n81 : Int, ∃ s82 : Sl, held S50 ⟨b10, 0, none⟩ (.int .i64 n74) ∧ held S50 ⟨b10, 1, none⟩ (.int .i64 n75) ∧ held S50 ⟨b10, 2, none⟩ (.int .i64 n76) ∧ held S50 ⟨b10, 3, none⟩ (.int .i64 n77) ∧ held S50 ⟨b10, 4, none⟩ (.int .i64 n78) ∧ held S50 ⟨b10, 5, none⟩ (s79.val) ∧ held S50 ⟨b10, 6, none⟩ (s80.val) ∧ held S50 ⟨b10, 7, none⟩ (.int .i64 n81) ∧ held S50 ⟨b10, 8, none⟩ (s82.val) ∧
 ∃ n83 n84 : Int, ∃ n85 n86 n87 : Int, held S50 ⟨b46, 0, none⟩ (.int .i64 n83) ∧ held S50 ⟨b46, 1, none⟩ (.int .i64 n84) ∧ held S50 ⟨b46, 2, none⟩ (.int .i64 n85) ∧ held S50 ⟨b46, 3, none⟩ (.int .i64 n86) ∧ held S50 ⟨b46, 4, none⟩ (.int .i64 n87) ∧
 Calls Tryz.prog fn_hollowayref15_Uses #[.agg #[.int .i64 n83, .int .i64 n84, .int .i64 n85, .int .i64 n86, .int .i64 n87]] w72 fun e88 w89 => ∃ s90 : Sl, e88 = .returned (s90.val) ∧
 S50 w89 ∧
 Calls Tryz.prog fn_hollowayref15_named #[.agg #[.int .i64 n74, .int .i64 n75, .int .i64 n76, .int .i64 n77, .int .i64 n78, s79.val, s80.val, .int .i64 n81, s82.val], s90.val, .int .i64 k37] w89 fun e91 w92 => ∃ b93 : Bool, e91 = .returned (.bool b93) ∧
 J12 (!b93) w92))
 (∃ n94 n95 : Int, ∃ n96 n97 n98 : Int, ∃ s99 s100 : Sl, ∃ n101 : Int, ∃ s102 : Sl, held S50 ⟨b10, 0, none⟩ (.int .i64 n94) ∧ held S50 ⟨b10, 1, none⟩ (.int .i64 n95) ∧ held S50 ⟨b10, 2, none⟩ (.int .i64 n96) ∧ held S50 ⟨b10, 3, none⟩ (.int .i64 n97) ∧ held S50 ⟨b10, 4, none⟩ (.int .i64 n98) ∧ held S50 ⟨b10, 5, none⟩ (s99.val) ∧ held S50 ⟨b10, 6, none⟩ (s100.val) ∧ held S50 ⟨b10, 7, none⟩ (.int .i64 n101) ∧ held S50 ⟨b10, 8, none⟩ (s102.val) ∧
 ∃ n103 n104 : Int, ∃ n105 n106 n107 : Int, held S50 ⟨b46, 0, none⟩ (.int .i64 n103) ∧ held S50 ⟨b46, 1, none⟩ (.int .i64 n104) ∧ held S50 ⟨b46, 2, none⟩ (.int .i64 n105) ∧ held S50 ⟨b46, 3, none⟩ (.int .i64 n106) ∧ held S50 ⟨b46, 4, none⟩ (.int .i64 n107) ∧
 Calls Tryz.prog fn_hollowayref15_Uses #[.agg #[.int .i64 n103, .int .i64 n104, .int .i64 n105, .int .i64 n106, .int .i64 n107]] w66 fun e108 w109 => ∃ s110 : Sl, e108 = .returned (s110.val) ∧
 S50 w109 ∧
 Calls Tryz.prog fn_hollowayref15_named #[.agg #[.int .i64 n94, .int .i64 n95, .int .i64 n96, .int .i64 n97, .int .i64 n98, s99.val, s100.val, .int .i64 n101, s102.val], s110.val, .int .i64 k37] w109 fun e111 w112 => ∃ b113 : Bool, e111 = .returned (.bool b113) ∧
 J12 (!b113) w112)))
 (∃ n114 : Int, held S50 ⟨b46, 0, none⟩ (.int .i64 n114) ∧
 brB (n114 == (3 : Int))
 (∃ n115 : Int, held S50 ⟨b46, 1, none⟩ (.int .i64 n115) ∧
 ∃ n116 : Int, held S50 ⟨b10, 2, none⟩ (.int .i64 n116) ∧
 Calls Tryz.prog fn_hollowayref15_within #[.int .i64 n115, .int .i64 (wr (n116 - (1 : Int)))] w60 fun e117 w118 => ∃ b119 : Bool, e117 = .returned (.bool b119) ∧
 S50 w118 ∧
 brB (!b119)
 (J12 true w118)
 (∃ n120 n121 : Int, ∃ n122 n123 n124 : Int, ∃ s125 s126 : Sl, ∃ n127 : Int, ∃ s128 : Sl, held S50 ⟨b10, 0, none⟩ (.int .i64 n120) ∧ held S50 ⟨b10, 1, none⟩ (.int .i64 n121) ∧ held S50 ⟨b10, 2, none⟩ (.int .i64 n122) ∧ held S50 ⟨b10, 3, none⟩ (.int .i64 n123) ∧ held S50 ⟨b10, 4, none⟩ (.int .i64 n124) ∧ held S50 ⟨b10, 5, none⟩ (s125.val) ∧ held S50 ⟨b10, 6, none⟩ (s126.val) ∧ held S50 ⟨b10, 7, none⟩ (.int .i64 n127) ∧ held S50 ⟨b10, 8, none⟩ (s128.val) ∧
 ∃ n129 n130 : Int, ∃ n131 n132 n133 : Int, held S50 ⟨b46, 0, none⟩ (.int .i64 n129) ∧ held S50 ⟨b46, 1, none⟩ (.int .i64 n130) ∧ held S50 ⟨b46, 2, none⟩ (.int .i64 n131) ∧ held S50 ⟨b46, 3, none⟩ (.int .i64 n132) ∧ held S50 ⟨b46, 4, none⟩ (.int .i64 n133) ∧
 Calls Tryz.prog fn_hollowayref15_Uses #[.agg #[.int .i64 n129, .int .i64 n130, .int .i64 n131, .int .i64 n132, .int .i64 n133]] w118 fun e134 w135 => ∃ s136 : Sl, e134 = .returned (s136.val) ∧
 S50 w135 ∧
 Calls Tryz.prog fn_hollowayref15_named #[.agg #[.int .i64 n120, .int .i64 n121, .int .i64 n122, .int .i64 n123, .int .i64 n124, s125.val, s126.val, .int .i64 n127, s128.val], s136.val, .int .i64 k37] w135 fun e137 w138 => ∃ b139 : Bool, e137 = .returned (.bool b139) ∧
 J12 (!b139) w138))
 (∃ n140 n141 : Int, ∃ n142 n143 n144 : Int, ∃ s145 s146 : Sl, ∃ n147 : Int, ∃ s148 : Sl, held S50 ⟨b10, 0, none⟩ (.int .i64 n140) ∧ held S50 ⟨b10, 1, none⟩ (.int .i64 n141) ∧ held S50 ⟨b10, 2, none⟩ (.int .i64 n142) ∧ held S50 ⟨b10, 3, none⟩ (.int .i64 n143) ∧ held S50 ⟨b10, 4, none⟩ (.int .i64 n144) ∧ held S50 ⟨b10, 5, none⟩ (s145.val) ∧ held S50 ⟨b10, 6, none⟩ (s146.val) ∧ held S50 ⟨b10, 7, none⟩ (.int .i64 n147) ∧ held S50 ⟨b10, 8, none⟩ (s148.val) ∧
 ∃ n149 n150 : Int, ∃ n151 n152 n153 : Int, held S50 ⟨b46, 0, none⟩ (.int .i64 n149) ∧ held S50 ⟨b46, 1, none⟩ (.int .i64 n150) ∧ held S50 ⟨b46, 2, none⟩ (.int .i64 n151) ∧ held S50 ⟨b46, 3, none⟩ (.int .i64 n152) ∧ held S50 ⟨b46, 4, none⟩ (.int .i64 n153) ∧
 Calls Tryz.prog fn_hollowayref15_Uses #[.agg #[.int .i64 n149, .int .i64 n150, .int .i64 n151, .int .i64 n152, .int .i64 n153]] w60 fun e154 w155 => ∃ s156 : Sl, e154 = .returned (s156.val) ∧
 S50 w155 ∧
 Calls Tryz.prog fn_hollowayref15_named #[.agg #[.int .i64 n140, .int .i64 n141, .int .i64 n142, .int .i64 n143, .int .i64 n144, s145.val, s146.val, .int .i64 n147, s148.val], s156.val, .int .i64 k37] w155 fun e157 w158 => ∃ b159 : Bool, e157 = .returned (.bool b159) ∧
 J12 (!b159) w158))))
 (∃ n160 : Int, held S50 ⟨b46, 0, none⟩ (.int .i64 n160) ∧
 brB (n160 == (2 : Int))
 (∃ n161 : Int, held S50 ⟨b46, 1, none⟩ (.int .i64 n161) ∧
 ∃ n162 : Int, held S50 ⟨b10, 1, none⟩ (.int .i64 n162) ∧
 Calls Tryz.prog fn_hollowayref15_within #[.int .i64 n161, .int .i64 (wr (n162 - (1 : Int)))] w56 fun e163 w164 => ∃ b165 : Bool, e163 = .returned (.bool b165) ∧
 S50 w164 ∧
 brB (!b165)
 (J12 true w164)
 (∃ n166 : Int, held S50 ⟨b46, 0, none⟩ (.int .i64 n166) ∧
 brB (n166 == (3 : Int))
 (∃ n167 : Int, held S50 ⟨b46, 1, none⟩ (.int .i64 n167) ∧
 ∃ n168 : Int, held S50 ⟨b10, 2, none⟩ (.int .i64 n168) ∧
 Calls Tryz.prog fn_hollowayref15_within #[.int .i64 n167, .int .i64 (wr (n168 - (1 : Int)))] w164 fun e169 w170 => ∃ b171 : Bool, e169 = .returned (.bool b171) ∧
 S50 w170 ∧
 brB (!b171)
 (J12 true w170)
 (∃ n172 n173 : Int, ∃ n174 n175 n176 : Int, ∃ s177 s178 : Sl, ∃ n179 : Int, ∃ s180 : Sl, held S50 ⟨b10, 0, none⟩ (.int .i64 n172) ∧ held S50 ⟨b10, 1, none⟩ (.int .i64 n173) ∧ held S50 ⟨b10, 2, none⟩ (.int .i64 n174) ∧ held S50 ⟨b10, 3, none⟩ (.int .i64 n175) ∧ held S50 ⟨b10, 4, none⟩ (.int .i64 n176) ∧ held S50 ⟨b10, 5, none⟩ (s177.val) ∧ held S50 ⟨b10, 6, none⟩ (s178.val) ∧ held S50 ⟨b10, 7, none⟩ (.int .i64 n179) ∧ held S50 ⟨b10, 8, none⟩ (s180.val) ∧
 ∃ n181 n182 : Int, ∃ n183 n184 n185 : Int, held S50 ⟨b46, 0, none⟩ (.int .i64 n181) ∧ held S50 ⟨b46, 1, none⟩ (.int .i64 n182) ∧ held S50 ⟨b46, 2, none⟩ (.int .i64 n183) ∧ held S50 ⟨b46, 3, none⟩ (.int .i64 n184) ∧ held S50 ⟨b46, 4, none⟩ (.int .i64 n185) ∧
 Calls Tryz.prog fn_hollowayref15_Uses #[.agg #[.int .i64 n181, .int .i64 n182, .int .i64 n183, .int .i64 n184, .int .i64 n185]] w170 fun e186 w187 => ∃ s188 : Sl, e186 = .returned (s188.val) ∧
 S50 w187 ∧
 Calls Tryz.prog fn_hollowayref15_named #[.agg #[.int .i64 n172, .int .i64 n173, .int .i64 n174, .int .i64 n175, .int .i64 n176, s177.val, s178.val, .int .i64 n179, s180.val], s188.val, .int .i64 k37] w187 fun e189 w190 => ∃ b191 : Bool, e189 = .returned (.bool b191) ∧
 J12 (!b191) w190))
 (∃ n192 n193 : Int, ∃ n194 n195 n196 : Int, ∃ s197 s198 : Sl, ∃ n199 : Int, ∃ s200 : Sl, held S50 ⟨b10, 0, none⟩ (.int .i64 n192) ∧ held S50 ⟨b10, 1, none⟩ (.int .i64 n193) ∧ held S50 ⟨b10, 2, none⟩ (.int .i64 n194) ∧ held S50 ⟨b10, 3, none⟩ (.int .i64 n195) ∧ held S50 ⟨b10, 4, none⟩ (.int .i64 n196) ∧ held S50 ⟨b10, 5, none⟩ (s197.val) ∧ held S50 ⟨b10, 6, none⟩ (s198.val) ∧ held S50 ⟨b10, 7, none⟩ (.int .i64 n199) ∧ held S50 ⟨b10, 8, none⟩ (s200.val) ∧
 ∃ n201 n202 : Int, ∃ n203 n204 n205 : Int, held S50 ⟨b46, 0, none⟩ (.int .i64 n201) ∧ held S50 ⟨b46, 1, none⟩ (.int .i64 n202) ∧ held S50 ⟨b46, 2, none⟩ (.int .i64 n203) ∧ held S50 ⟨b46, 3, none⟩ (.int .i64 n204) ∧ held S50 ⟨b46, 4, none⟩ (.int .i64 n205) ∧
 Calls Tryz.prog fn_hollowayref15_Uses #[.agg #[.int .i64 n201, .int .i64 n202, .int .i64 n203, .int .i64 n204, .int .i64 n205]] w164 fun e206 w207 => ∃ s208 : Sl, e206 = .returned (s208.val) ∧
 S50 w207 ∧
 Calls Tryz.prog fn_hollowayref15_named #[.agg #[.int .i64 n192, .int .i64 n193, .int .i64 n194, .int .i64 n195, .int .i64 n196, s197.val, s198.val, .int .i64 n199, s200.val], s208.val, .int .i64 k37] w207 fun e209 w210 => ∃ b211 : Bool, e209 = .returned (.bool b211) ∧
 J12 (!b211) w210)))
 (∃ n212 : Int, held S50 ⟨b46, 0, none⟩ (.int .i64 n212) ∧
 brB (n212 == (3 : Int))
 (∃ n213 : Int, held S50 ⟨b46, 1, none⟩ (.int .i64 n213) ∧
 ∃ n214 : Int, held S50 ⟨b10, 2, none⟩ (.int .i64 n214) ∧
 Calls Tryz.prog fn_hollowayref15_within #[.int .i64 n213, .int .i64 (wr (n214 - (1 : Int)))] w56 fun e215 w216 => ∃ b217 : Bool, e215 = .returned (.bool b217) ∧
 S50 w216 ∧
 brB (!b217)
 (J12 true w216)
 (∃ n218 n219 : Int, ∃ n220 n221 n222 : Int, ∃ s223 s224 : Sl, ∃ n225 : Int, ∃ s226 : Sl, held S50 ⟨b10, 0, none⟩ (.int .i64 n218) ∧ held S50 ⟨b10, 1, none⟩ (.int .i64 n219) ∧ held S50 ⟨b10, 2, none⟩ (.int .i64 n220) ∧ held S50 ⟨b10, 3, none⟩ (.int .i64 n221) ∧ held S50 ⟨b10, 4, none⟩ (.int .i64 n222) ∧ held S50 ⟨b10, 5, none⟩ (s223.val) ∧ held S50 ⟨b10, 6, none⟩ (s224.val) ∧ held S50 ⟨b10, 7, none⟩ (.int .i64 n225) ∧ held S50 ⟨b10, 8, none⟩ (s226.val) ∧
 ∃ n227 n228 : Int, ∃ n229 n230 n231 : Int, held S50 ⟨b46, 0, none⟩ (.int .i64 n227) ∧ held S50 ⟨b46, 1, none⟩ (.int .i64 n228) ∧ held S50 ⟨b46, 2, none⟩ (.int .i64 n229) ∧ held S50 ⟨b46, 3, none⟩ (.int .i64 n230) ∧ held S50 ⟨b46, 4, none⟩ (.int .i64 n231) ∧
 Calls Tryz.prog fn_hollowayref15_Uses #[.agg #[.int .i64 n227, .int .i64 n228, .int .i64 n229, .int .i64 n230, .int .i64 n231]] w216 fun e232 w233 => ∃ s234 : Sl, e232 = .returned (s234.val) ∧
 S50 w233 ∧
 Calls Tryz.prog fn_hollowayref15_named #[.agg #[.int .i64 n218, .int .i64 n219, .int .i64 n220, .int .i64 n221, .int .i64 n222, s223.val, s224.val, .int .i64 n225, s226.val], s234.val, .int .i64 k37] w233 fun e235 w236 => ∃ b237 : Bool, e235 = .returned (.bool b237) ∧
 J12 (!b237) w236))
 (∃ n238 n239 : Int, ∃ n240 n241 n242 : Int, ∃ s243 s244 : Sl, ∃ n245 : Int, ∃ s246 : Sl, held S50 ⟨b10, 0, none⟩ (.int .i64 n238) ∧ held S50 ⟨b10, 1, none⟩ (.int .i64 n239) ∧ held S50 ⟨b10, 2, none⟩ (.int .i64 n240) ∧ held S50 ⟨b10, 3, none⟩ (.int .i64 n241) ∧ held S50 ⟨b10, 4, none⟩ (.int .i64 n242) ∧ held S50 ⟨b10, 5, none⟩ (s243.val) ∧ held S50 ⟨b10, 6, none⟩ (s244.val) ∧ held S50 ⟨b10, 7, none⟩ (.int .i64 n245) ∧ held S50 ⟨b10, 8, none⟩ (s246.val) ∧
 ∃ n247 n248 : Int, ∃ n249 n250 n251 : Int, held S50 ⟨b46, 0, none⟩ (.int .i64 n247) ∧ held S50 ⟨b46, 1, none⟩ (.int .i64 n248) ∧ held S50 ⟨b46, 2, none⟩ (.int .i64 n249) ∧ held S50 ⟨b46, 3, none⟩ (.int .i64 n250) ∧ held S50 ⟨b46, 4, none⟩ (.int .i64 n251) ∧
 Calls Tryz.prog fn_hollowayref15_Uses #[.agg #[.int .i64 n247, .int .i64 n248, .int .i64 n249, .int .i64 n250, .int .i64 n251]] w56 fun e252 w253 => ∃ s254 : Sl, e252 = .returned (s254.val) ∧
 S50 w253 ∧
 Calls Tryz.prog fn_hollowayref15_named #[.agg #[.int .i64 n238, .int .i64 n239, .int .i64 n240, .int .i64 n241, .int .i64 n242, s243.val, s244.val, .int .i64 n245, s246.val], s254.val, .int .i64 k37] w253 fun e255 w256 => ∃ b257 : Bool, e255 = .returned (.bool b257) ∧
 J12 (!b257) w256))))
 (∃ n258 : Int, held S50 ⟨b46, 0, none⟩ (.int .i64 n258) ∧
 brB (n258 == (2 : Int))
 (∃ n259 : Int, held S50 ⟨b46, 1, none⟩ (.int .i64 n259) ∧
 ∃ n260 : Int, held S50 ⟨b10, 1, none⟩ (.int .i64 n260) ∧
 Calls Tryz.prog fn_hollowayref15_within #[.int .i64 n259, .int .i64 (wr (n260 - (1 : Int)))] w49 fun e261 w262 => ∃ b263 : Bool, e261 = .returned (.bool b263) ∧
 S50 w262 ∧
 brB (!b263)
 (J12 true w262)
 (∃ n264 : Int, held S50 ⟨b46, 0, none⟩ (.int .i64 n264) ∧
 brB (n264 == (3 : Int))
 (∃ n265 : Int, held S50 ⟨b46, 1, none⟩ (.int .i64 n265) ∧
 ∃ n266 : Int, held S50 ⟨b10, 2, none⟩ (.int .i64 n266) ∧
 Calls Tryz.prog fn_hollowayref15_within #[.int .i64 n265, .int .i64 (wr (n266 - (1 : Int)))] w262 fun e267 w268 => ∃ b269 : Bool, e267 = .returned (.bool b269) ∧
 S50 w268 ∧
 brB (!b269)
 (J12 true w268)
 (∃ n270 n271 : Int, ∃ n272 n273 n274 : Int, ∃ s275 s276 : Sl, ∃ n277 : Int, ∃ s278 : Sl, held S50 ⟨b10, 0, none⟩ (.int .i64 n270) ∧ held S50 ⟨b10, 1, none⟩ (.int .i64 n271) ∧ held S50 ⟨b10, 2, none⟩ (.int .i64 n272) ∧ held S50 ⟨b10, 3, none⟩ (.int .i64 n273) ∧ held S50 ⟨b10, 4, none⟩ (.int .i64 n274) ∧ held S50 ⟨b10, 5, none⟩ (s275.val) ∧ held S50 ⟨b10, 6, none⟩ (s276.val) ∧ held S50 ⟨b10, 7, none⟩ (.int .i64 n277) ∧ held S50 ⟨b10, 8, none⟩ (s278.val) ∧
 ∃ n279 n280 : Int, ∃ n281 n282 n283 : Int, held S50 ⟨b46, 0, none⟩ (.int .i64 n279) ∧ held S50 ⟨b46, 1, none⟩ (.int .i64 n280) ∧ held S50 ⟨b46, 2, none⟩ (.int .i64 n281) ∧ held S50 ⟨b46, 3, none⟩ (.int .i64 n282) ∧ held S50 ⟨b46, 4, none⟩ (.int .i64 n283) ∧
 Calls Tryz.prog fn_hollowayref15_Uses #[.agg #[.int .i64 n279, .int .i64 n280, .int .i64 n281, .int .i64 n282, .int .i64 n283]] w268 fun e284 w285 => ∃ s286 : Sl, e284 = .returned (s286.val) ∧
 S50 w285 ∧
 Calls Tryz.prog fn_hollowayref15_named #[.agg #[.int .i64 n270, .int .i64 n271, .int .i64 n272, .int .i64 n273, .int .i64 n274, s275.val, s276.val, .int .i64 n277, s278.val], s286.val, .int .i64 k37] w285 fun e287 w288 => ∃ b289 : Bool, e287 = .returned (.bool b289) ∧
 J12 (!b289) w288))
 (∃ n290 n291 : Int, ∃ n292 n293 n294 : Int, ∃ s295 s296 : Sl, ∃ n297 : Int, ∃ s298 : Sl, held S50 ⟨b10, 0, none⟩ (.int .i64 n290) ∧ held S50 ⟨b10, 1, none⟩ (.int .i64 n291) ∧ held S50 ⟨b10, 2, none⟩ (.int .i64 n292) ∧ held S50 ⟨b10, 3, none⟩ (.int .i64 n293) ∧ held S50 ⟨b10, 4, none⟩ (.int .i64 n294) ∧ held S50 ⟨b10, 5, none⟩ (s295.val) ∧ held S50 ⟨b10, 6, none⟩ (s296.val) ∧ held S50 ⟨b10, 7, none⟩ (.int .i64 n297) ∧ held S50 ⟨b10, 8, none⟩ (s298.val) ∧
 ∃ n299 n300 : Int, ∃ n301 n302 n303 : Int, held S50 ⟨b46, 0, none⟩ (.int .i64 n299) ∧ held S50 ⟨b46, 1, none⟩ (.int .i64 n300) ∧ held S50 ⟨b46, 2, none⟩ (.int .i64 n301) ∧ held S50 ⟨b46, 3, none⟩ (.int .i64 n302) ∧ held S50 ⟨b46, 4, none⟩ (.int .i64 n303) ∧
 Calls Tryz.prog fn_hollowayref15_Uses #[.agg #[.int .i64 n299, .int .i64 n300, .int .i64 n301, .int .i64 n302, .int .i64 n303]] w262 fun e304 w305 => ∃ s306 : Sl, e304 = .returned (s306.val) ∧
 S50 w305 ∧
 Calls Tryz.prog fn_hollowayref15_named #[.agg #[.int .i64 n290, .int .i64 n291, .int .i64 n292, .int .i64 n293, .int .i64 n294, s295.val, s296.val, .int .i64 n297, s298.val], s306.val, .int .i64 k37] w305 fun e307 w308 => ∃ b309 : Bool, e307 = .returned (.bool b309) ∧
 J12 (!b309) w308)))
 (∃ n310 : Int, held S50 ⟨b46, 0, none⟩ (.int .i64 n310) ∧
 brB (n310 == (3 : Int))
 (∃ n311 : Int, held S50 ⟨b46, 1, none⟩ (.int .i64 n311) ∧
 ∃ n312 : Int, held S50 ⟨b10, 2, none⟩ (.int .i64 n312) ∧
 Calls Tryz.prog fn_hollowayref15_within #[.int .i64 n311, .int .i64 (wr (n312 - (1 : Int)))] w49 fun e313 w314 => ∃ b315 : Bool, e313 = .returned (.bool b315) ∧
 S50 w314 ∧
 brB (!b315)
 (J12 true w314)
 (∃ n316 n317 : Int, ∃ n318 n319 n320 : Int, ∃ s321 s322 : Sl, ∃ n323 : Int, ∃ s324 : Sl, held S50 ⟨b10, 0, none⟩ (.int .i64 n316) ∧ held S50 ⟨b10, 1, none⟩ (.int .i64 n317) ∧ held S50 ⟨b10, 2, none⟩ (.int .i64 n318) ∧ held S50 ⟨b10, 3, none⟩ (.int .i64 n319) ∧ held S50 ⟨b10, 4, none⟩ (.int .i64 n320) ∧ held S50 ⟨b10, 5, none⟩ (s321.val) ∧ held S50 ⟨b10, 6, none⟩ (s322.val) ∧ held S50 ⟨b10, 7, none⟩ (.int .i64 n323) ∧ held S50 ⟨b10, 8, none⟩ (s324.val) ∧
 ∃ n325 n326 : Int, ∃ n327 n328 n329 : Int, held S50 ⟨b46, 0, none⟩ (.int .i64 n325) ∧ held S50 ⟨b46, 1, none⟩ (.int .i64 n326) ∧ held S50 ⟨b46, 2, none⟩ (.int .i64 n327) ∧ held S50 ⟨b46, 3, none⟩ (.int .i64 n328) ∧ held S50 ⟨b46, 4, none⟩ (.int .i64 n329) ∧
 Calls Tryz.prog fn_hollowayref15_Uses #[.agg #[.int .i64 n325, .int .i64 n326, .int .i64 n327, .int .i64 n328, .int .i64 n329]] w314 fun e330 w331 => ∃ s332 : Sl, e330 = .returned (s332.val) ∧
 S50 w331 ∧
 Calls Tryz.prog fn_hollowayref15_named #[.agg #[.int .i64 n316, .int .i64 n317, .int .i64 n318, .int .i64 n319, .int .i64 n320, s321.val, s322.val, .int .i64 n323, s324.val], s332.val, .int .i64 k37] w331 fun e333 w334 => ∃ b335 : Bool, e333 = .returned (.bool b335) ∧
 J12 (!b335) w334))
 (∃ n336 n337 : Int, ∃ n338 n339 n340 : Int, ∃ s341 s342 : Sl, ∃ n343 : Int, ∃ s344 : Sl, held S50 ⟨b10, 0, none⟩ (.int .i64 n336) ∧ held S50 ⟨b10, 1, none⟩ (.int .i64 n337) ∧ held S50 ⟨b10, 2, none⟩ (.int .i64 n338) ∧ held S50 ⟨b10, 3, none⟩ (.int .i64 n339) ∧ held S50 ⟨b10, 4, none⟩ (.int .i64 n340) ∧ held S50 ⟨b10, 5, none⟩ (s341.val) ∧ held S50 ⟨b10, 6, none⟩ (s342.val) ∧ held S50 ⟨b10, 7, none⟩ (.int .i64 n343) ∧ held S50 ⟨b10, 8, none⟩ (s344.val) ∧
 ∃ n345 n346 : Int, ∃ n347 n348 n349 : Int, held S50 ⟨b46, 0, none⟩ (.int .i64 n345) ∧ held S50 ⟨b46, 1, none⟩ (.int .i64 n346) ∧ held S50 ⟨b46, 2, none⟩ (.int .i64 n347) ∧ held S50 ⟨b46, 3, none⟩ (.int .i64 n348) ∧ held S50 ⟨b46, 4, none⟩ (.int .i64 n349) ∧
 Calls Tryz.prog fn_hollowayref15_Uses #[.agg #[.int .i64 n345, .int .i64 n346, .int .i64 n347, .int .i64 n348, .int .i64 n349]] w49 fun e350 w351 => ∃ s352 : Sl, e350 = .returned (s352.val) ∧
 S50 w351 ∧
 Calls Tryz.prog fn_hollowayref15_named #[.agg #[.int .i64 n336, .int .i64 n337, .int .i64 n338, .int .i64 n339, .int .i64 n340, s341.val, s342.val, .int .i64 n343, s344.val], s352.val, .int .i64 k37] w351 fun e353 w354 => ∃ b355 : Bool, e353 = .returned (.bool b355) ∧
 J12 (!b355) w354))))))
 (∃ (I3 : Int → World → Prop) (μ3 : Int → World → Nat), I3 (0 : Int) w36 ∧ ∀ (k384 : Int) (w383 : World), I3 k384 w383 →
 ∃ s385 : Sl, w383.cell? ⟨b10, 6, none⟩ = some (s385.val) ∧
 brB (decide (k384 < (s385.len : Int)))
 (∃ s386 : Sl, w383.cell? ⟨b10, 6, none⟩ = some (s386.val) ∧
 ∃ a387 : Addr, s386.ptr = some a387 ∧ 0 ≤ k384 ∧ k384 < (s386.len : Int) ∧
 ∃ n388 n389 : Int, ∃ s390 s391 : Sl, w383.cell? (Addr.add a387 (Int.toNat k384 * 4)) = some (.int .i64 n388) ∧ w383.cell? (Addr.add (Addr.add a387 (Int.toNat k384 * 4)) 1) = some (.int .i64 n389) ∧ w383.cell? (Addr.add (Addr.add a387 (Int.toNat k384 * 4)) 2) = some (s390.val) ∧ w383.cell? (Addr.add (Addr.add a387 (Int.toNat k384 * 4)) 3) = some (s391.val) ∧
 ∀ (b392 : Nat) (w393 : World), b392 = w383.heap.size → w393 = World.alloc w383 (.cells #[.int .i64 (0 : Int), .int .i64 (0 : Int), .slice none 0 0, .slice none 0 0] T_api_Out) →
 wrOk w393 ⟨b392, 0, none⟩ 4 ∧ ∀ w394 : World, w394 = stW w393 ⟨b392, 0, none⟩ 0 [.int .i64 n388, .int .i64 n389, s390.val, s391.val] →
 ∃ J27 : Bool → World → Prop, (∀ (b410 : Bool) (w409 : World), J27 b410 w409 →
 brB b410
 (K (.bool false) w409)
 (I3 (wr (k384 + (1 : Int))) w409 ∧ μ3 (wr (k384 + (1 : Int))) w409 < μ3 k384 w383)) ∧
 ∃ n395 : Int, w394.cell? ⟨b392, 1, none⟩ = some (.int .i64 n395) ∧
 Calls Tryz.prog fn_hollowayref15_within #[.int .i64 n395, .int .i64 (120 : Int)] w394 fun e396 w397 => ∃ b398 : Bool, e396 = .returned (.bool b398) ∧
 brB (!b398)
 (J27 true w397)
 (∃ n399 : Int, w397.cell? ⟨b392, 0, none⟩ = some (.int .i64 n399) ∧
 Calls Tryz.prog fn_hollowayref15_within #[.int .i64 n399, .int .i64 (2999 : Int)] w397 fun e400 w401 => ∃ b402 : Bool, e400 = .returned (.bool b402) ∧
 brB (!b402)
 (J27 true w401)
 (∃ s403 : Sl, w401.cell? ⟨b392, 2, none⟩ = some (s403.val) ∧
 ∃ n404 : Int, w401.cell? ⟨b10, 1, none⟩ = some (.int .i64 n404) ∧
 ∃ n405 : Int, w401.cell? ⟨b10, 3, none⟩ = some (.int .i64 n405) ∧
 brB (decide ((s403.len : Int) > (wr (n404 + n405))))
 (J27 true w401)
 (∃ s406 : Sl, w401.cell? ⟨b392, 3, none⟩ = some (s406.val) ∧
 ∃ n407 : Int, w401.cell? ⟨b10, 2, none⟩ = some (.int .i64 n407) ∧
 ∃ n408 : Int, w401.cell? ⟨b10, 4, none⟩ = some (.int .i64 n408) ∧
 J27 (decide ((s406.len : Int) > (wr (n407 + n408)))) w401))))
 (∃ (I4 : Int → World → Prop) (μ4 : Int → World → Nat), I4 (0 : Int) w383 ∧ ∀ (k412 : Int) (w411 : World), I4 k412 w411 →
 ∃ s413 : Sl, w411.cell? ⟨b10, 8, none⟩ = some (s413.val) ∧
 brB (decide (k412 < (s413.len : Int)))
 (∃ J34 : Bool → World → Prop, (∀ (b429 : Bool) (w428 : World), J34 b429 w428 →
 brB b429
 (K (.bool false) w428)
 (I4 (wr (k412 + (1 : Int))) w428 ∧ μ4 (wr (k412 + (1 : Int))) w428 < μ4 k412 w411)) ∧
 ∀ w414 : World, w414 = World.drew w411 →
 ∃ S415 : World → Prop, S415 w414 ∧
 ∃ s416 : Sl, held S415 ⟨b10, 8, none⟩ (s416.val) ∧
 ∃ a417 : Addr, s416.ptr = some a417 ∧ 0 ≤ k412 ∧ k412 < (s416.len : Int) ∧
 ∃ n418 : Int, held S415 (Addr.add a417 (Int.toNat k412 * 1)) (.int .i64 n418) ∧
 Calls Tryz.prog fn_hollowayref15_within #[.int .i64 n418, .int .i64 (2999 : Int)] w414 fun e419 w420 => ∃ b421 : Bool, e419 = .returned (.bool b421) ∧
 S415 w420 ∧
 brB (!b421)
 (J34 true w420)
 (brB (decide (k412 > (0 : Int)))
 (∃ s422 : Sl, held S415 ⟨b10, 8, none⟩ (s422.val) ∧
 ∃ a423 : Addr, s422.ptr = some a423 ∧ 0 ≤ (wr (k412 - (1 : Int))) ∧ (wr (k412 - (1 : Int))) < (s422.len : Int) ∧
 ∃ n424 : Int, held S415 (Addr.add a423 (Int.toNat (wr (k412 - (1 : Int))) * 1)) (.int .i64 n424) ∧
 ∃ s425 : Sl, held S415 ⟨b10, 8, none⟩ (s425.val) ∧
 ∃ a426 : Addr, s425.ptr = some a426 ∧ 0 ≤ k412 ∧ k412 < (s425.len : Int) ∧
 ∃ n427 : Int, held S415 (Addr.add a426 (Int.toNat k412 * 1)) (.int .i64 n427) ∧
 J34 (decide (n424 ≥ n427)) w420)
 (J34 false w420)))
 (∃ n430 n431 : Int, ∃ n432 n433 n434 : Int, ∃ s435 s436 : Sl, ∃ n437 : Int, ∃ s438 : Sl, w411.cell? ⟨b10, 0, none⟩ = some (.int .i64 n430) ∧ w411.cell? ⟨b10, 1, none⟩ = some (.int .i64 n431) ∧ w411.cell? ⟨b10, 2, none⟩ = some (.int .i64 n432) ∧ w411.cell? ⟨b10, 3, none⟩ = some (.int .i64 n433) ∧ w411.cell? ⟨b10, 4, none⟩ = some (.int .i64 n434) ∧ w411.cell? ⟨b10, 5, none⟩ = some (s435.val) ∧ w411.cell? ⟨b10, 6, none⟩ = some (s436.val) ∧ w411.cell? ⟨b10, 7, none⟩ = some (.int .i64 n437) ∧ w411.cell? ⟨b10, 8, none⟩ = some (s438.val) ∧
 ∃ n439 : Int, w411.cell? ⟨b10, 7, none⟩ = some (.int .i64 n439) ∧
 ∃ s440 : Sl, w411.cell? ⟨b10, 5, none⟩ = some (s440.val) ∧
 Calls Tryz.prog fn_hollowayref15_out #[.agg #[.int .i64 n430, .int .i64 n431, .int .i64 n432, .int .i64 n433, .int .i64 n434, s435.val, s436.val, .int .i64 n437, s438.val], .int .i64 n439, .int .i64 (s440.len : Int)] w411 fun e441 w442 => ∃ b443 : Bool, e441 = .returned (.bool b443) ∧
 brB b443
 (∃ s444 : Sl, w442.cell? ⟨b10, 6, none⟩ = some (s444.val) ∧
 ∃ n445 : Int, w442.cell? ⟨b10, 7, none⟩ = some (.int .i64 n445) ∧
 ∃ a446 : Addr, s444.ptr = some a446 ∧ 0 ≤ n445 ∧ n445 < (s444.len : Int) ∧
 ∃ n447 : Int, w442.cell? (Addr.add (Addr.add a446 (Int.toNat n445 * 4)) 1) = some (.int .i64 n447) ∧
 K (.bool (decide (n447 ≥ (1 : Int)))) w442)
 (K (.bool false) w442)))))) ∧
 ∃ s12 : Sl, w11.cell? ⟨b10, 5, none⟩ = some (s12.val) ∧
 brB (decide ((s12.len : Int) > (1000 : Int)))
 (J3 true w11)
 (∃ s13 : Sl, w11.cell? ⟨b10, 6, none⟩ = some (s13.val) ∧
 brB (decide ((s13.len : Int) > (300 : Int)))
 (J3 true w11)
 (∃ n14 : Int, w11.cell? ⟨b10, 0, none⟩ = some (.int .i64 n14) ∧
 Calls Tryz.prog fn_hollowayref15_within #[.int .i64 n14, .int .i64 (2999 : Int)] w11 fun e15 w16 => ∃ b17 : Bool, e15 = .returned (.bool b17) ∧
 brB (!b17)
 (J3 true w16)
 (∃ n18 : Int, w16.cell? ⟨b10, 1, none⟩ = some (.int .i64 n18) ∧
 Calls Tryz.prog fn_hollowayref15_within #[.int .i64 n18, .int .i64 (48 : Int)] w16 fun e19 w20 => ∃ b21 : Bool, e19 = .returned (.bool b21) ∧
 brB (!b21)
 (J3 true w20)
 (∃ n22 : Int, w20.cell? ⟨b10, 3, none⟩ = some (.int .i64 n22) ∧
 Calls Tryz.prog fn_hollowayref15_within #[.int .i64 n22, .int .i64 (48 : Int)] w20 fun e23 w24 => ∃ b25 : Bool, e23 = .returned (.bool b25) ∧
 brB (!b25)
 (J3 true w24)
 (∃ n26 : Int, w24.cell? ⟨b10, 2, none⟩ = some (.int .i64 n26) ∧
 Calls Tryz.prog fn_hollowayref15_within #[.int .i64 n26, .int .i64 (48 : Int)] w24 fun e27 w28 => ∃ b29 : Bool, e27 = .returned (.bool b29) ∧
 brB (!b29)
 (J3 true w28)
 (∃ n30 : Int, w28.cell? ⟨b10, 4, none⟩ = some (.int .i64 n30) ∧
 Calls Tryz.prog fn_hollowayref15_within #[.int .i64 n30, .int .i64 (48 : Int)] w28 fun e31 w32 => ∃ b33 : Bool, e31 = .returned (.bool b33) ∧
 J3 (!b33) w32))))))
def hollowayref15_Right_an : An := ⟨[(4, [(3, .int .i64)]), (11, [(6, .int .i64)]), (16, [(7, .int .i64)]), (22, [(9, .int .i64)])], [(7, (58, .st 0 (.st 1 (.st 2 (.st 3 (.st 4 (.st 5 (.st 6 (.st 7 (.st 8 (.st 9 (.st 10 (.st 11 (.st 12 (.st 13 (.st 14 (.ef 15 (.st 16 (.st 17 (.st 18 (.st 19 (.st 20 (.ef 21 (.st 22 (.st 23 (.st 24 (.st 25 (.st 26 (.st 27 (.st 28 (.st 29 (.st 30 (.st 31 (.st 32 (.st 33 (.st 34 (.ef 35 (.st 36 (.st 37 (.st 38 (.st 39 (.st 40 (.st 41 (.st 42 (.st 43 (.st 44 (.st 45 (.st 46 (.st 47 (.st 48 (.ef 49 (.st 50 (.st 51 (.st 52 (.st 53 (.st 54 (.st 55 (.st 57 (.ef 56 .done))))))))))))))))))))))))))))))))))))))))))))))))))))))))), 1)), (13, (6, .st 0 (.st 1 (.st 2 (.st 3 (.st 4 (.st 5 .done))))), 0)), (24, (22, .st 0 (.st 1 (.st 2 (.st 3 (.st 4 (.ef 5 (.st 6 (.st 7 (.st 8 (.st 9 (.st 10 (.st 11 (.st 12 (.st 13 (.st 14 (.st 15 (.st 16 (.st 17 (.st 18 (.st 19 (.st 20 (.st 21 .done))))))))))))))))))))), 1))], [(2, [(49, .bool)]), (8, [(122, .bool)]), (20, [(182, .bool)]), (25, [(214, .bool)])]⟩
theorem hollowayref15_Right_lift {t1 : Int} {t2 : Int} {t3 : Int} {t4 : Int} {t5 : Int} {t6 : Sl} {t7 : Sl} {t8 : Int} {t9 : Sl} {w : World} {K : Value → World → Prop} (h : hollowayref15_Right_sh t1 t2 t3 t4 t5 t6 t7 t8 t9 w K) : Calls Tryz.prog fn_hollowayref15_Right #[.agg #[.int .i64 t1, .int .i64 t2, .int .i64 t3, .int .i64 t4, .int .i64 t5, t6.val, t7.val, .int .i64 t8, t9.val]] w fun e w' => ∃ v, e = .returned v ∧ K v w' :=
   lift_calls (A := hollowayref15_Right_an) (c := bodyOf Tryz.f8) (args := [.agg #[.int .i64 t1, .int .i64 t2, .int .i64 t3, .int .i64 t4, .int .i64 t5, t6.val, t7.val, .int .i64 t8, t9.val]]) orc orc_wide Tryz.func8 (by kernel_rfl) (by kernel_rfl) (Eq.mp (by kernel_rfl : hollowayref15_Right_sh t1 t2 t3 t4 t5 t6 t7 t8 t9 w K = wpc orc Tryz.f8.ntmps hollowayref15_Right_an (bodyOf Tryz.f8) (argl 0 [.agg #[.int .i64 t1, .int .i64 t2, .int .i64 t3, .int .i64 t4, .int .i64 t5, t6.val, t7.val, .int .i64 t8, t9.val]]) w (retQ orc Tryz.f8.results.toList K)) h)

def hollowayref15_May_sh (t1 : Int) (t2 : Int) (t3 : Int) (t4 : Int) (t5 : Int) (t6 : Sl) (t7 : Sl) (t8 : Int) (t9 : Sl) (s10 : Int) (s11 : Int) (s12 : Sl) (s13 : Sl) (s14 : Sl) (s15 : ByteArray) (s16 : ByteArray) (s17 : Int) (s18 : Int) (s19 : Int) (w : World) (K : Value → World → Prop) : Prop :=
 ∀ (b20 : Nat) (w21 : World), b20 = w.heap.size → w21 = World.alloc w (.cells #[.int .i64 t1, .int .i64 t2, .int .i64 t3, .int .i64 t4, .int .i64 t5, t6.val, t7.val, .int .i64 t8, t9.val] T_api_Trace) →
 ∀ (b22 : Nat) (w23 : World), b22 = w21.heap.size → w23 = World.alloc w21 (.cells #[.int .i64 s10, .int .i64 s11, s12.val, s13.val, s14.val, .string s15, .string s16, .int .i64 s17, .int .i64 s18, .int .i64 s19] T_api_State) →
 ∃ n24 : Int, w23.cell? ⟨b22, 8, none⟩ = some (.int .i64 n24) ∧
 brB (n24 == (0 : Int))
 (∃ n25 : Int, w23.cell? ⟨b22, 0, none⟩ = some (.int .i64 n25) ∧
 ∃ n26 : Int, w23.cell? ⟨b20, 0, none⟩ = some (.int .i64 n26) ∧
 brB (n25 == n26)
 (∃ s27 : Sl, w23.cell? ⟨b22, 2, none⟩ = some (s27.val) ∧
 ∃ n28 : Int, w23.cell? ⟨b20, 1, none⟩ = some (.int .i64 n28) ∧
 brB (decide ((s27.len : Int) ≥ n28))
 (∃ s29 : Sl, w23.cell? ⟨b22, 2, none⟩ = some (s29.val) ∧
 ∃ n30 : Int, w23.cell? ⟨b20, 3, none⟩ = some (.int .i64 n30) ∧
 brB (decide ((wr ((s29.len : Int) + n30)) ≤ (48 : Int)))
 (∃ s31 : Sl, w23.cell? ⟨b22, 3, none⟩ = some (s31.val) ∧
 ∃ n32 : Int, w23.cell? ⟨b20, 2, none⟩ = some (.int .i64 n32) ∧
 brB (decide ((s31.len : Int) ≥ n32))
 (∃ s33 : Sl, w23.cell? ⟨b22, 3, none⟩ = some (s33.val) ∧
 ∃ n34 : Int, w23.cell? ⟨b20, 4, none⟩ = some (.int .i64 n34) ∧
 K (.bool (decide ((wr ((s33.len : Int) + n34)) ≤ (48 : Int)))) w23)
 (K (.bool false) w23))
 (K (.bool false) w23))
 (K (.bool false) w23))
 (K (.bool false) w23))
 (K (.bool false) w23)
def hollowayref15_May_an : An := ⟨[], [], []⟩
theorem hollowayref15_May_lift {t1 : Int} {t2 : Int} {t3 : Int} {t4 : Int} {t5 : Int} {t6 : Sl} {t7 : Sl} {t8 : Int} {t9 : Sl} {s10 : Int} {s11 : Int} {s12 : Sl} {s13 : Sl} {s14 : Sl} {s15 : ByteArray} {s16 : ByteArray} {s17 : Int} {s18 : Int} {s19 : Int} {w : World} {K : Value → World → Prop} (h : hollowayref15_May_sh t1 t2 t3 t4 t5 t6 t7 t8 t9 s10 s11 s12 s13 s14 s15 s16 s17 s18 s19 w K) : Calls Tryz.prog fn_hollowayref15_May #[.agg #[.int .i64 t1, .int .i64 t2, .int .i64 t3, .int .i64 t4, .int .i64 t5, t6.val, t7.val, .int .i64 t8, t9.val], .agg #[.int .i64 s10, .int .i64 s11, s12.val, s13.val, s14.val, .string s15, .string s16, .int .i64 s17, .int .i64 s18, .int .i64 s19]] w fun e w' => ∃ v, e = .returned v ∧ K v w' :=
   lift_calls (A := hollowayref15_May_an) (c := bodyOf Tryz.f13) (args := [.agg #[.int .i64 t1, .int .i64 t2, .int .i64 t3, .int .i64 t4, .int .i64 t5, t6.val, t7.val, .int .i64 t8, t9.val], .agg #[.int .i64 s10, .int .i64 s11, s12.val, s13.val, s14.val, .string s15, .string s16, .int .i64 s17, .int .i64 s18, .int .i64 s19]]) orc orc_wide Tryz.func13 (by kernel_rfl) (by kernel_rfl) (Eq.mp (by kernel_rfl : hollowayref15_May_sh t1 t2 t3 t4 t5 t6 t7 t8 t9 s10 s11 s12 s13 s14 s15 s16 s17 s18 s19 w K = wpc orc Tryz.f13.ntmps hollowayref15_May_an (bodyOf Tryz.f13) (argl 0 [.agg #[.int .i64 t1, .int .i64 t2, .int .i64 t3, .int .i64 t4, .int .i64 t5, t6.val, t7.val, .int .i64 t8, t9.val], .agg #[.int .i64 s10, .int .i64 s11, s12.val, s13.val, s14.val, .string s15, .string s16, .int .i64 s17, .int .i64 s18, .int .i64 s19]]) w (retQ orc Tryz.f13.results.toList K)) h)

def hollowayref15_Run_sh (t1 : Int) (t2 : Int) (t3 : Int) (t4 : Int) (t5 : Int) (t6 : Sl) (t7 : Sl) (t8 : Int) (t9 : Sl) (s10 : Int) (s11 : Int) (s12 : Sl) (s13 : Sl) (s14 : Sl) (s15 : ByteArray) (s16 : ByteArray) (s17 : Int) (s18 : Int) (s19 : Int) (watched20 : Sl) (w : World) (K : Value → World → Prop) : Prop :=
 ∀ (b21 : Nat) (w22 : World), b21 = w.heap.size → w22 = World.alloc w (.cells #[.int .i64 t1, .int .i64 t2, .int .i64 t3, .int .i64 t4, .int .i64 t5, t6.val, t7.val, .int .i64 t8, t9.val] T_api_Trace) →
 ∀ (b23 : Nat) (w24 : World), b23 = w22.heap.size → w24 = World.alloc w22 (.cells #[.int .i64 s10, .int .i64 s11, s12.val, s13.val, s14.val, .string s15, .string s16, .int .i64 s17, .int .i64 s18, .int .i64 s19] T_api_State) →
 ∀ (b25 : Nat) (w26 : World), b25 = w24.heap.size → w26 = World.alloc w24 (.cells #[.int .i64 (0 : Int), .int .i64 (0 : Int), .slice none 0 0, .slice none 0 0, .slice none 0 0, .string (bs []), .string (bs []), .int .i64 (0 : Int), .int .i64 (0 : Int), .int .i64 (0 : Int)] T_api_State) →
 ∃ s27 : Sl, w26.cell? ⟨b23, 4, none⟩ = some (s27.val) ∧
 ∃ s28 : Sl, ∃ w29 : World, (Builtin.append_ #[T_sl_int, T_sl_int] T_sl_int #[.slice none 0 0, s27.val]).run Tryz.prog w26 = .ok (s28.val) w29 ∧
 wrOk w29 ⟨b23, 4, none⟩ 1 ∧ ∀ w30 : World, w30 = stW w29 ⟨b23, 4, none⟩ 0 [s28.val] →
 ∃ s31 : Sl, w30.cell? ⟨b21, 5, none⟩ = some (s31.val) ∧
 ∃ s32 : Sl, ∃ w33 : World, (Instr.makeSlice T_sl_int (.int .i64 (s31.len : Int)) (.int .i64 (s31.len : Int))).run Tryz.prog w30 = .ok s32.val w33 ∧
 ∃ (I1 : Int → World → Prop) (μ1 : Int → World → Nat), I1 (0 : Int) w33 ∧ ∀ (k35 : Int) (w34 : World), I1 k35 w34 →
 ∃ s36 : Sl, w34.cell? ⟨b21, 5, none⟩ = some (s36.val) ∧
 brB (decide (k35 < (s36.len : Int)))
 (∃ s37 : Sl, w34.cell? ⟨b21, 5, none⟩ = some (s37.val) ∧
 ∃ a38 : Addr, s37.ptr = some a38 ∧ 0 ≤ k35 ∧ k35 < (s37.len : Int) ∧
 ∃ n39 n40 : Int, ∃ n41 n42 n43 : Int, w34.cell? (Addr.add a38 (Int.toNat k35 * 5)) = some (.int .i64 n39) ∧ w34.cell? (Addr.add (Addr.add a38 (Int.toNat k35 * 5)) 1) = some (.int .i64 n40) ∧ w34.cell? (Addr.add (Addr.add a38 (Int.toNat k35 * 5)) 2) = some (.int .i64 n41) ∧ w34.cell? (Addr.add (Addr.add a38 (Int.toNat k35 * 5)) 3) = some (.int .i64 n42) ∧ w34.cell? (Addr.add (Addr.add a38 (Int.toNat k35 * 5)) 4) = some (.int .i64 n43) ∧
 ∀ (b44 : Nat) (w45 : World), b44 = w34.heap.size → w45 = World.alloc w34 (.cells #[.int .i64 (0 : Int), .int .i64 (0 : Int), .int .i64 (0 : Int), .int .i64 (0 : Int), .int .i64 (0 : Int)] T_api_Ins) →
 wrOk w45 ⟨b44, 0, none⟩ 5 ∧ ∀ w46 : World, w46 = stW w45 ⟨b44, 0, none⟩ 0 [.int .i64 n39, .int .i64 n40, .int .i64 n41, .int .i64 n42, .int .i64 n43] →
 ∃ n47 n48 : Int, ∃ n49 n50 n51 : Int, w46.cell? ⟨b44, 0, none⟩ = some (.int .i64 n47) ∧ w46.cell? ⟨b44, 1, none⟩ = some (.int .i64 n48) ∧ w46.cell? ⟨b44, 2, none⟩ = some (.int .i64 n49) ∧ w46.cell? ⟨b44, 3, none⟩ = some (.int .i64 n50) ∧ w46.cell? ⟨b44, 4, none⟩ = some (.int .i64 n51) ∧
 Calls Tryz.prog fn_hollowayref15_Uses #[.agg #[.int .i64 n47, .int .i64 n48, .int .i64 n49, .int .i64 n50, .int .i64 n51]] w46 fun e52 w53 => ∃ s54 : Sl, e52 = .returned (s54.val) ∧
 ∃ J12 : Int → World → Prop, (∀ (b88 : Int) (w59 : World), J12 b88 w59 →
 ∃ J14 : Int → World → Prop, (∀ (c89 : Int) (w64 : World), J14 c89 w64 →
 ∃ J17 : Bool → World → Prop, (∀ (exits195 : Bool) (w194 : World), J17 exits195 w194 →
 brB exits195
 (∀ w196 : World, w196 = World.drew w194 →
 ∃ S197 : World → Prop, S197 w196 ∧
 ∃ n198 n199 : Int, ∃ n200 n201 n202 : Int, ∃ s203 s204 : Sl, ∃ n205 : Int, ∃ s206 : Sl, held S197 ⟨b21, 0, none⟩ (.int .i64 n198) ∧ held S197 ⟨b21, 1, none⟩ (.int .i64 n199) ∧ held S197 ⟨b21, 2, none⟩ (.int .i64 n200) ∧ held S197 ⟨b21, 3, none⟩ (.int .i64 n201) ∧ held S197 ⟨b21, 4, none⟩ (.int .i64 n202) ∧ held S197 ⟨b21, 5, none⟩ (s203.val) ∧ held S197 ⟨b21, 6, none⟩ (s204.val) ∧ held S197 ⟨b21, 7, none⟩ (.int .i64 n205) ∧ held S197 ⟨b21, 8, none⟩ (s206.val) ∧
 ∃ n207 n208 : Int, ∃ s209 s210 s211 : Sl, ∃ t212 t213 : ByteArray, ∃ n214 n215 n216 : Int, held S197 ⟨b23, 0, none⟩ (.int .i64 n207) ∧ held S197 ⟨b23, 1, none⟩ (.int .i64 n208) ∧ held S197 ⟨b23, 2, none⟩ (s209.val) ∧ held S197 ⟨b23, 3, none⟩ (s210.val) ∧ held S197 ⟨b23, 4, none⟩ (s211.val) ∧ held S197 ⟨b23, 5, none⟩ (.string t212) ∧ held S197 ⟨b23, 6, none⟩ (.string t213) ∧ held S197 ⟨b23, 7, none⟩ (.int .i64 n214) ∧ held S197 ⟨b23, 8, none⟩ (.int .i64 n215) ∧ held S197 ⟨b23, 9, none⟩ (.int .i64 n216) ∧
 ∃ n217 : Int, held S197 ⟨b44, 4, none⟩ (.int .i64 n217) ∧
 ∃ n218 : Int, held S197 ⟨b44, 4, none⟩ (.int .i64 n218) ∧
 Calls Tryz.prog fn_hollowayref15_leave #[.agg #[.int .i64 n198, .int .i64 n199, .int .i64 n200, .int .i64 n201, .int .i64 n202, s203.val, s204.val, .int .i64 n205, s206.val], .agg #[.int .i64 n207, .int .i64 n208, s209.val, s210.val, s211.val, .string t212, .string t213, .int .i64 n214, .int .i64 n215, .int .i64 n216], s32.val, .int .i64 n217] w196 fun e219 w220 => ∃ n221 n222 : Int, ∃ s223 s224 s225 : Sl, ∃ t226 t227 : ByteArray, ∃ n228 n229 n230 : Int, e219 = .returned (.agg #[.int .i64 n221, .int .i64 n222, s223.val, s224.val, s225.val, .string t226, .string t227, .int .i64 n228, .int .i64 n229, .int .i64 n230]) ∧
 S197 w220 ∧
 wrOk w220 ⟨b25, 0, none⟩ 10 ∧ ∀ w231 : World, w231 = stW w220 ⟨b25, 0, none⟩ 0 [.int .i64 n221, .int .i64 n222, s223.val, s224.val, s225.val, .string t226, .string t227, .int .i64 n228, .int .i64 n229, .int .i64 n230] →
 S197 w231 ∧
 ∃ r232 r233 : Int, ∃ r234 r235 r236 : Sl, ∃ r237 r238 : ByteArray, ∃ r239 r240 r241 : Int, w231.cell? ⟨b25, 0, none⟩ = some (.int .i64 r232) ∧ w231.cell? ⟨b25, 1, none⟩ = some (.int .i64 r233) ∧ w231.cell? ⟨b25, 2, none⟩ = some (r234.val) ∧ w231.cell? ⟨b25, 3, none⟩ = some (r235.val) ∧ w231.cell? ⟨b25, 4, none⟩ = some (r236.val) ∧ w231.cell? ⟨b25, 5, none⟩ = some (.string r237) ∧ w231.cell? ⟨b25, 6, none⟩ = some (.string r238) ∧ w231.cell? ⟨b25, 7, none⟩ = some (.int .i64 r239) ∧ w231.cell? ⟨b25, 8, none⟩ = some (.int .i64 r240) ∧ w231.cell? ⟨b25, 9, none⟩ = some (.int .i64 r241) ∧
 K (.tuple #[.agg #[.int .i64 r232, .int .i64 r233, r234.val, r235.val, r236.val, .string r237, .string r238, .int .i64 r239, .int .i64 r240, .int .i64 r241], .int .i64 n218, .bool false]) w231)
 (I1 (wr (k35 + (1 : Int))) w194 ∧ μ1 (wr (k35 + (1 : Int))) w194 < μ1 k35 w34)) ∧
 ∃ n65 : Int, w64.cell? ⟨b44, 0, none⟩ = some (.int .i64 n65) ∧
 brB (n65 == (1 : Int))
 (∃ n66 : Int, w64.cell? ⟨b44, 1, none⟩ = some (.int .i64 n66) ∧
 ∃ a67 : Addr, s32.ptr = some a67 ∧ 0 ≤ k35 ∧ k35 < (s32.len : Int) ∧
 wrOk w64 (Addr.add a67 (Int.toNat k35 * 1)) 1 ∧ ∀ w68 : World, w68 = stW w64 (Addr.add a67 (Int.toNat k35 * 1)) 0 [.int .i64 n66] →
 J17 false w68)
 (brB (n65 == (2 : Int))
 (∃ s69 : Sl, w64.cell? ⟨b23, 2, none⟩ = some (s69.val) ∧
 ∃ s70 : Sl, w64.cell? ⟨b23, 2, none⟩ = some (s70.val) ∧
 ∃ n71 : Int, w64.cell? ⟨b44, 1, none⟩ = some (.int .i64 n71) ∧
 ∃ a72 : Addr, s69.ptr = some a72 ∧ 0 ≤ (wr ((wr ((s70.len : Int) - (1 : Int))) - n71)) ∧ (wr ((wr ((s70.len : Int) - (1 : Int))) - n71)) < (s69.len : Int) ∧
 ∃ n73 : Int, w64.cell? (Addr.add a72 (Int.toNat (wr ((wr ((s70.len : Int) - (1 : Int))) - n71)) * 1)) = some (.int .i64 n73) ∧
 ∃ a74 : Addr, s32.ptr = some a74 ∧ 0 ≤ k35 ∧ k35 < (s32.len : Int) ∧
 wrOk w64 (Addr.add a74 (Int.toNat k35 * 1)) 1 ∧ ∀ w75 : World, w75 = stW w64 (Addr.add a74 (Int.toNat k35 * 1)) 0 [.int .i64 n73] →
 J17 false w75)
 (brB (n65 == (3 : Int))
 (∃ s76 : Sl, w64.cell? ⟨b23, 3, none⟩ = some (s76.val) ∧
 ∃ s77 : Sl, w64.cell? ⟨b23, 3, none⟩ = some (s77.val) ∧
 ∃ n78 : Int, w64.cell? ⟨b44, 1, none⟩ = some (.int .i64 n78) ∧
 ∃ a79 : Addr, s76.ptr = some a79 ∧ 0 ≤ (wr ((wr ((s77.len : Int) - (1 : Int))) - n78)) ∧ (wr ((wr ((s77.len : Int) - (1 : Int))) - n78)) < (s76.len : Int) ∧
 ∃ n80 : Int, w64.cell? (Addr.add a79 (Int.toNat (wr ((wr ((s77.len : Int) - (1 : Int))) - n78)) * 1)) = some (.int .i64 n80) ∧
 ∃ a81 : Addr, s32.ptr = some a81 ∧ 0 ≤ k35 ∧ k35 < (s32.len : Int) ∧
 wrOk w64 (Addr.add a81 (Int.toNat k35 * 1)) 1 ∧ ∀ w82 : World, w82 = stW w64 (Addr.add a81 (Int.toNat k35 * 1)) 0 [.int .i64 n80] →
 J17 false w82)
 (brB (n65 == (4 : Int))
 (∃ J24 : Bool → World → Prop, (∀ (ok104 : Bool) (w103 : World), J24 ok104 w103 →
 J17 (!ok104) w103) ∧
 ∃ n83 : Int, w64.cell? ⟨b44, 1, none⟩ = some (.int .i64 n83) ∧
 Calls Tryz.prog fn_hollowayref1_IsTwo #[.int .i64 n83] w64 fun e84 w85 => ∃ b86 : Bool, e84 = .returned (.bool b86) ∧
 brB b86
 (∃ n87 : Int, w85.cell? ⟨b44, 1, none⟩ = some (.int .i64 n87) ∧
 Calls Tryz.prog fn_hollowayref1_Two #[.int .i64 n87, .int .i64 b88, .int .i64 c89] w85 fun e90 w91 => ∃ n92 : Int, ∃ b93 : Bool, e90 = .returned (.tuple #[.int .i64 n92, .bool b93]) ∧
 ∃ a94 : Addr, s32.ptr = some a94 ∧ 0 ≤ k35 ∧ k35 < (s32.len : Int) ∧
 wrOk w91 (Addr.add a94 (Int.toNat k35 * 1)) 1 ∧ ∀ w95 : World, w95 = stW w91 (Addr.add a94 (Int.toNat k35 * 1)) 0 [.int .i64 n92] →
 J24 b93 w95)
 (∃ n96 : Int, w85.cell? ⟨b44, 1, none⟩ = some (.int .i64 n96) ∧
 Calls Tryz.prog fn_hollowayref1_One #[.int .i64 n96, .int .i64 b88] w85 fun e97 w98 => ∃ n99 : Int, ∃ b100 : Bool, e97 = .returned (.tuple #[.int .i64 n99, .bool b100]) ∧
 ∃ a101 : Addr, s32.ptr = some a101 ∧ 0 ≤ k35 ∧ k35 < (s32.len : Int) ∧
 wrOk w98 (Addr.add a101 (Int.toNat k35 * 1)) 1 ∧ ∀ w102 : World, w102 = stW w98 (Addr.add a101 (Int.toNat k35 * 1)) 0 [.int .i64 n99] →
 J24 true w102))
 (brB (n65 == (5 : Int))
 (∃ J27 : Bool → World → Prop, (∀ (exits107 : Bool) (w106 : World), J27 exits107 w106 →
 brB (!exits107)
 (∃ s108 : Sl, w106.cell? ⟨b23, 4, none⟩ = some (s108.val) ∧
 ∃ a109 : Addr, s108.ptr = some a109 ∧ 0 ≤ b88 ∧ b88 < (s108.len : Int) ∧
 ∃ n110 : Int, w106.cell? (Addr.add a109 (Int.toNat b88 * 1)) = some (.int .i64 n110) ∧
 ∃ a111 : Addr, s32.ptr = some a111 ∧ 0 ≤ k35 ∧ k35 < (s32.len : Int) ∧
 wrOk w106 (Addr.add a111 (Int.toNat k35 * 1)) 1 ∧ ∀ w112 : World, w112 = stW w106 (Addr.add a111 (Int.toNat k35 * 1)) 0 [.int .i64 n110] →
 J17 exits107 w112)
 (J17 exits107 w106)) ∧
 brB (decide (b88 < (0 : Int)))
 (J27 true w64)
 (∃ s105 : Sl, w64.cell? ⟨b23, 4, none⟩ = some (s105.val) ∧
 J27 (decide (b88 ≥ (s105.len : Int))) w64))
 (brB (n65 == (6 : Int))
 (∃ J30 : Bool → World → Prop, (∀ (exits115 : Bool) (w114 : World), J30 exits115 w114 →
 brB (!exits115)
 (∃ s116 : Sl, w114.cell? ⟨b23, 4, none⟩ = some (s116.val) ∧
 ∃ a117 : Addr, s116.ptr = some a117 ∧ 0 ≤ b88 ∧ b88 < (s116.len : Int) ∧
 wrOk w114 (Addr.add a117 (Int.toNat b88 * 1)) 1 ∧ ∀ w118 : World, w118 = stW w114 (Addr.add a117 (Int.toNat b88 * 1)) 0 [.int .i64 c89] →
 ∃ (I2 : Int → World → Prop) (μ2 : Int → World → Nat), I2 (0 : Int) w118 ∧ ∀ (j120 : Int) (w119 : World), I2 j120 w119 →
 brB (decide (j120 < (watched20.len : Int)))
 (∃ a121 : Addr, watched20.ptr = some a121 ∧ 0 ≤ j120 ∧ j120 < (watched20.len : Int) ∧
 ∃ n122 : Int, w119.cell? (Addr.add a121 (Int.toNat j120 * 1)) = some (.int .i64 n122) ∧
 brB (n122 == b88)
 (∀ w123 : World, w123 = World.drew w119 →
 ∃ S124 : World → Prop, S124 w123 ∧
 ∃ n125 n126 : Int, ∃ n127 n128 n129 : Int, ∃ s130 s131 : Sl, ∃ n132 : Int, ∃ s133 : Sl, held S124 ⟨b21, 0, none⟩ (.int .i64 n125) ∧ held S124 ⟨b21, 1, none⟩ (.int .i64 n126) ∧ held S124 ⟨b21, 2, none⟩ (.int .i64 n127) ∧ held S124 ⟨b21, 3, none⟩ (.int .i64 n128) ∧ held S124 ⟨b21, 4, none⟩ (.int .i64 n129) ∧ held S124 ⟨b21, 5, none⟩ (s130.val) ∧ held S124 ⟨b21, 6, none⟩ (s131.val) ∧ held S124 ⟨b21, 7, none⟩ (.int .i64 n132) ∧ held S124 ⟨b21, 8, none⟩ (s133.val) ∧
 ∃ n134 n135 : Int, ∃ s136 s137 s138 : Sl, ∃ t139 t140 : ByteArray, ∃ n141 n142 n143 : Int, held S124 ⟨b23, 0, none⟩ (.int .i64 n134) ∧ held S124 ⟨b23, 1, none⟩ (.int .i64 n135) ∧ held S124 ⟨b23, 2, none⟩ (s136.val) ∧ held S124 ⟨b23, 3, none⟩ (s137.val) ∧ held S124 ⟨b23, 4, none⟩ (s138.val) ∧ held S124 ⟨b23, 5, none⟩ (.string t139) ∧ held S124 ⟨b23, 6, none⟩ (.string t140) ∧ held S124 ⟨b23, 7, none⟩ (.int .i64 n141) ∧ held S124 ⟨b23, 8, none⟩ (.int .i64 n142) ∧ held S124 ⟨b23, 9, none⟩ (.int .i64 n143) ∧
 ∃ n144 : Int, held S124 ⟨b44, 1, none⟩ (.int .i64 n144) ∧
 ∃ n145 : Int, held S124 ⟨b44, 1, none⟩ (.int .i64 n145) ∧
 Calls Tryz.prog fn_hollowayref15_leave #[.agg #[.int .i64 n125, .int .i64 n126, .int .i64 n127, .int .i64 n128, .int .i64 n129, s130.val, s131.val, .int .i64 n132, s133.val], .agg #[.int .i64 n134, .int .i64 n135, s136.val, s137.val, s138.val, .string t139, .string t140, .int .i64 n141, .int .i64 n142, .int .i64 n143], s32.val, .int .i64 n144] w123 fun e146 w147 => ∃ n148 n149 : Int, ∃ s150 s151 s152 : Sl, ∃ t153 t154 : ByteArray, ∃ n155 n156 n157 : Int, e146 = .returned (.agg #[.int .i64 n148, .int .i64 n149, s150.val, s151.val, s152.val, .string t153, .string t154, .int .i64 n155, .int .i64 n156, .int .i64 n157]) ∧
 S124 w147 ∧
 wrOk w147 ⟨b25, 0, none⟩ 10 ∧ ∀ w158 : World, w158 = stW w147 ⟨b25, 0, none⟩ 0 [.int .i64 n148, .int .i64 n149, s150.val, s151.val, s152.val, .string t153, .string t154, .int .i64 n155, .int .i64 n156, .int .i64 n157] →
 S124 w158 ∧
 ∃ r159 r160 : Int, ∃ r161 r162 r163 : Sl, ∃ r164 r165 : ByteArray, ∃ r166 r167 r168 : Int, w158.cell? ⟨b25, 0, none⟩ = some (.int .i64 r159) ∧ w158.cell? ⟨b25, 1, none⟩ = some (.int .i64 r160) ∧ w158.cell? ⟨b25, 2, none⟩ = some (r161.val) ∧ w158.cell? ⟨b25, 3, none⟩ = some (r162.val) ∧ w158.cell? ⟨b25, 4, none⟩ = some (r163.val) ∧ w158.cell? ⟨b25, 5, none⟩ = some (.string r164) ∧ w158.cell? ⟨b25, 6, none⟩ = some (.string r165) ∧ w158.cell? ⟨b25, 7, none⟩ = some (.int .i64 r166) ∧ w158.cell? ⟨b25, 8, none⟩ = some (.int .i64 r167) ∧ w158.cell? ⟨b25, 9, none⟩ = some (.int .i64 r168) ∧
 K (.tuple #[.agg #[.int .i64 r159, .int .i64 r160, r161.val, r162.val, r163.val, .string r164, .string r165, .int .i64 r166, .int .i64 r167, .int .i64 r168], .int .i64 n145, .bool true]) w158)
 (I2 (wr (j120 + (1 : Int))) w119 ∧ μ2 (wr (j120 + (1 : Int))) w119 < μ2 j120 w119))
 (J17 exits115 w119))
 (J17 exits115 w114)) ∧
 brB (decide (b88 < (0 : Int)))
 (J30 true w64)
 (∃ s113 : Sl, w64.cell? ⟨b23, 4, none⟩ = some (s113.val) ∧
 J30 (decide (b88 ≥ (s113.len : Int))) w64))
 (brB (n65 == (7 : Int))
 (J17 (b88 == (0 : Int)) w64)
 (brB (n65 == (8 : Int))
 (J17 (b88 != (0 : Int)) w64)
 (brB (n65 == (9 : Int))
 (J17 (b88 != c89) w64)
 (∃ J42 : Bool → World → Prop, (∀ (b170 : Bool) (w169 : World), J42 b170 w169 →
 brB b170
 (∀ (b171 : Nat) (w172 : World), b171 = w169.heap.size → w172 = World.alloc w169 (.cells #[.int .u8 (IntKind.wrap .u8 (iand .i64 b88 (255 : Int)))] T_uint8) →
 ∃ t173 : ByteArray, ∃ w174 : World, (convert T_sl_uint8 T_string (.slice (some ⟨b171, 0, none⟩) 1 1)).run Tryz.prog w172 = .ok (.string t173) w174 ∧
 ∃ J45 : ByteArray → World → Prop, (∀ (x181 : ByteArray) (w179 : World), J45 x181 w179 →
 ∃ t180 : ByteArray, w179.cell? ⟨b23, 5, none⟩ = some (.string t180) ∧
 brB (!(decide ((wr ((t180.size : Int) + (x181.size : Int))) > (2000 : Int))))
 (∃ t182 : ByteArray, w179.cell? ⟨b23, 5, none⟩ = some (.string t182) ∧
 ((t182).size : Int) + ((x181).size : Int) ≤ 9223372036854775807 ∧ wrOk w179 ⟨b23, 5, none⟩ 1 ∧ ∀ w183 : World, w183 = stW w179 ⟨b23, 5, none⟩ 0 [.string (t182 ++ x181)] →
 J17 (decide ((wr ((t180.size : Int) + (x181.size : Int))) > (2000 : Int))) w183)
 (J17 (decide ((wr ((t180.size : Int) + (x181.size : Int))) > (2000 : Int))) w179)) ∧
 ∃ n175 : Int, w174.cell? ⟨b44, 0, none⟩ = some (.int .i64 n175) ∧
 brB (n175 == (11 : Int))
 (Calls Tryz.prog fn_hollowayref1_Put #[.int .i64 b88, .int .i64 (10 : Int)] w174 fun e176 w177 => ∃ t178 : ByteArray, e176 = .returned (.string t178) ∧
 ((t178).size : Int) + (((bs [32])).size : Int) ≤ 9223372036854775807 ∧ J45 (t178 ++ (bs [32])) w177)
 (J45 t173 w174))
 (∃ a184 : Addr, s32.ptr = some a184 ∧ 0 ≤ k35 ∧ k35 < (s32.len : Int) ∧
 wrOk w169 (Addr.add a184 (Int.toNat k35 * 1)) 1 ∧ ∀ w185 : World, w185 = stW w169 (Addr.add a184 (Int.toNat k35 * 1)) 0 [.int .i64 (-1 : Int)] →
 ∃ n186 : Int, w185.cell? ⟨b23, 7, none⟩ = some (.int .i64 n186) ∧
 ∃ t187 : ByteArray, w185.cell? ⟨b23, 6, none⟩ = some (.string t187) ∧
 brB (decide (n186 < (t187.size : Int)))
 (∃ t188 : ByteArray, w185.cell? ⟨b23, 6, none⟩ = some (.string t188) ∧
 ∃ n189 : Int, w185.cell? ⟨b23, 7, none⟩ = some (.int .i64 n189) ∧
 0 ≤ n189 ∧ n189 < (t188.size : Int) ∧
 ∃ a190 : Addr, s32.ptr = some a190 ∧ 0 ≤ k35 ∧ k35 < (s32.len : Int) ∧
 wrOk w185 (Addr.add a190 (Int.toNat k35 * 1)) 1 ∧ ∀ w191 : World, w191 = stW w185 (Addr.add a190 (Int.toNat k35 * 1)) 0 [.int .i64 (wr (sb t188 n189))] →
 ∃ n192 : Int, w191.cell? ⟨b23, 7, none⟩ = some (.int .i64 n192) ∧
 wrOk w191 ⟨b23, 7, none⟩ 1 ∧ ∀ w193 : World, w193 = stW w191 ⟨b23, 7, none⟩ 0 [.int .i64 (wr (n192 + (1 : Int)))] →
 J17 false w193)
 (J17 false w185))) ∧
 brB (n65 == (10 : Int))
 (J42 (n65 == (10 : Int)) w64)
 (J42 (n65 == (11 : Int)) w64))))))))))) ∧
 brB (decide ((s54.len : Int) > (1 : Int)))
 (∃ a60 : Addr, s54.ptr = some a60 ∧ 0 ≤ (1 : Int) ∧ (1 : Int) < (s54.len : Int) ∧
 ∃ n61 : Int, w59.cell? (Addr.add a60 (Int.toNat (1 : Int) * 1)) = some (.int .i64 n61) ∧
 ∃ a62 : Addr, s32.ptr = some a62 ∧ 0 ≤ n61 ∧ n61 < (s32.len : Int) ∧
 ∃ n63 : Int, w59.cell? (Addr.add a62 (Int.toNat n61 * 1)) = some (.int .i64 n63) ∧
 J14 n63 w59)
 (J14 (0 : Int) w59)) ∧
 brB (decide ((s54.len : Int) > (0 : Int)))
 (∃ a55 : Addr, s54.ptr = some a55 ∧ 0 ≤ (0 : Int) ∧ (0 : Int) < (s54.len : Int) ∧
 ∃ n56 : Int, w53.cell? (Addr.add a55 (Int.toNat (0 : Int) * 1)) = some (.int .i64 n56) ∧
 ∃ a57 : Addr, s32.ptr = some a57 ∧ 0 ≤ n56 ∧ n56 < (s32.len : Int) ∧
 ∃ n58 : Int, w53.cell? (Addr.add a57 (Int.toNat n56 * 1)) = some (.int .i64 n58) ∧
 J12 n58 w53)
 (J12 (0 : Int) w53))
 (∀ w242 : World, w242 = World.drew w34 →
 ∃ S243 : World → Prop, S243 w242 ∧
 ∃ n244 n245 : Int, ∃ n246 n247 n248 : Int, ∃ s249 s250 : Sl, ∃ n251 : Int, ∃ s252 : Sl, held S243 ⟨b21, 0, none⟩ (.int .i64 n244) ∧ held S243 ⟨b21, 1, none⟩ (.int .i64 n245) ∧ held S243 ⟨b21, 2, none⟩ (.int .i64 n246) ∧ held S243 ⟨b21, 3, none⟩ (.int .i64 n247) ∧ held S243 ⟨b21, 4, none⟩ (.int .i64 n248) ∧ held S243 ⟨b21, 5, none⟩ (s249.val) ∧ held S243 ⟨b21, 6, none⟩ (s250.val) ∧ held S243 ⟨b21, 7, none⟩ (.int .i64 n251) ∧ held S243 ⟨b21, 8, none⟩ (s252.val) ∧
 ∃ n253 n254 : Int, ∃ s255 s256 s257 : Sl, ∃ t258 t259 : ByteArray, ∃ n260 n261 n262 : Int, held S243 ⟨b23, 0, none⟩ (.int .i64 n253) ∧ held S243 ⟨b23, 1, none⟩ (.int .i64 n254) ∧ held S243 ⟨b23, 2, none⟩ (s255.val) ∧ held S243 ⟨b23, 3, none⟩ (s256.val) ∧ held S243 ⟨b23, 4, none⟩ (s257.val) ∧ held S243 ⟨b23, 5, none⟩ (.string t258) ∧ held S243 ⟨b23, 6, none⟩ (.string t259) ∧ held S243 ⟨b23, 7, none⟩ (.int .i64 n260) ∧ held S243 ⟨b23, 8, none⟩ (.int .i64 n261) ∧ held S243 ⟨b23, 9, none⟩ (.int .i64 n262) ∧
 ∃ n263 : Int, held S243 ⟨b21, 7, none⟩ (.int .i64 n263) ∧
 ∃ n264 : Int, held S243 ⟨b21, 7, none⟩ (.int .i64 n264) ∧
 Calls Tryz.prog fn_hollowayref15_leave #[.agg #[.int .i64 n244, .int .i64 n245, .int .i64 n246, .int .i64 n247, .int .i64 n248, s249.val, s250.val, .int .i64 n251, s252.val], .agg #[.int .i64 n253, .int .i64 n254, s255.val, s256.val, s257.val, .string t258, .string t259, .int .i64 n260, .int .i64 n261, .int .i64 n262], s32.val, .int .i64 n263] w242 fun e265 w266 => ∃ n267 n268 : Int, ∃ s269 s270 s271 : Sl, ∃ t272 t273 : ByteArray, ∃ n274 n275 n276 : Int, e265 = .returned (.agg #[.int .i64 n267, .int .i64 n268, s269.val, s270.val, s271.val, .string t272, .string t273, .int .i64 n274, .int .i64 n275, .int .i64 n276]) ∧
 S243 w266 ∧
 wrOk w266 ⟨b25, 0, none⟩ 10 ∧ ∀ w277 : World, w277 = stW w266 ⟨b25, 0, none⟩ 0 [.int .i64 n267, .int .i64 n268, s269.val, s270.val, s271.val, .string t272, .string t273, .int .i64 n274, .int .i64 n275, .int .i64 n276] →
 S243 w277 ∧
 ∃ r278 r279 : Int, ∃ r280 r281 r282 : Sl, ∃ r283 r284 : ByteArray, ∃ r285 r286 r287 : Int, w277.cell? ⟨b25, 0, none⟩ = some (.int .i64 r278) ∧ w277.cell? ⟨b25, 1, none⟩ = some (.int .i64 r279) ∧ w277.cell? ⟨b25, 2, none⟩ = some (r280.val) ∧ w277.cell? ⟨b25, 3, none⟩ = some (r281.val) ∧ w277.cell? ⟨b25, 4, none⟩ = some (r282.val) ∧ w277.cell? ⟨b25, 5, none⟩ = some (.string r283) ∧ w277.cell? ⟨b25, 6, none⟩ = some (.string r284) ∧ w277.cell? ⟨b25, 7, none⟩ = some (.int .i64 r285) ∧ w277.cell? ⟨b25, 8, none⟩ = some (.int .i64 r286) ∧ w277.cell? ⟨b25, 9, none⟩ = some (.int .i64 r287) ∧
 K (.tuple #[.agg #[.int .i64 r278, .int .i64 r279, r280.val, r281.val, r282.val, .string r283, .string r284, .int .i64 r285, .int .i64 r286, .int .i64 r287], .int .i64 n264, .bool false]) w277)
def hollowayref15_Run_an : An := ⟨[(4, [(10, .int .i64)]), (40, [(17, .int .i64)])], [(43, (9, .st 0 (.st 1 (.st 2 (.st 3 (.st 4 (.st 6 (.st 7 (.ef 5 (.ef 8 .done)))))))), 1)), (59, (9, .st 0 (.st 1 (.st 2 (.st 3 (.st 4 (.st 6 (.st 7 (.ef 5 (.ef 8 .done)))))))), 1)), (60, (9, .st 0 (.st 1 (.st 2 (.st 3 (.st 4 (.st 6 (.st 7 (.ef 5 (.ef 8 .done)))))))), 1))], [(30, [(16, .bool)]), (33, [(15, .bool)]), (37, [(15, .bool)]), (55, [(18, .str)]), (52, [(222, .bool)]), (58, [(15, .bool)]), (13, [(13, .int .i64)]), (11, [(12, .int .i64)])]⟩
theorem hollowayref15_Run_lift {t1 : Int} {t2 : Int} {t3 : Int} {t4 : Int} {t5 : Int} {t6 : Sl} {t7 : Sl} {t8 : Int} {t9 : Sl} {s10 : Int} {s11 : Int} {s12 : Sl} {s13 : Sl} {s14 : Sl} {s15 : ByteArray} {s16 : ByteArray} {s17 : Int} {s18 : Int} {s19 : Int} {watched20 : Sl} {w : World} {K : Value → World → Prop} (h : hollowayref15_Run_sh t1 t2 t3 t4 t5 t6 t7 t8 t9 s10 s11 s12 s13 s14 s15 s16 s17 s18 s19 watched20 w K) : Calls Tryz.prog fn_hollowayref15_Run #[.agg #[.int .i64 t1, .int .i64 t2, .int .i64 t3, .int .i64 t4, .int .i64 t5, t6.val, t7.val, .int .i64 t8, t9.val], .agg #[.int .i64 s10, .int .i64 s11, s12.val, s13.val, s14.val, .string s15, .string s16, .int .i64 s17, .int .i64 s18, .int .i64 s19], watched20.val] w fun e w' => ∃ v, e = .returned v ∧ K v w' :=
   lift_calls (A := hollowayref15_Run_an) (c := bodyOf Tryz.f14) (args := [.agg #[.int .i64 t1, .int .i64 t2, .int .i64 t3, .int .i64 t4, .int .i64 t5, t6.val, t7.val, .int .i64 t8, t9.val], .agg #[.int .i64 s10, .int .i64 s11, s12.val, s13.val, s14.val, .string s15, .string s16, .int .i64 s17, .int .i64 s18, .int .i64 s19], watched20.val]) orc orc_wide Tryz.func14 (by kernel_rfl) (by kernel_rfl) (Eq.mp (by kernel_rfl : hollowayref15_Run_sh t1 t2 t3 t4 t5 t6 t7 t8 t9 s10 s11 s12 s13 s14 s15 s16 s17 s18 s19 watched20 w K = wpc orc Tryz.f14.ntmps hollowayref15_Run_an (bodyOf Tryz.f14) (argl 0 [.agg #[.int .i64 t1, .int .i64 t2, .int .i64 t3, .int .i64 t4, .int .i64 t5, t6.val, t7.val, .int .i64 t8, t9.val], .agg #[.int .i64 s10, .int .i64 s11, s12.val, s13.val, s14.val, .string s15, .string s16, .int .i64 s17, .int .i64 s18, .int .i64 s19], watched20.val]) w (retQ orc Tryz.f14.results.toList K)) h)

def hollowayref15_Least_j1 (I6 : Int → Int → World → Prop) (j91 : Int) (μ6 : Int → Int → World → Nat) (n107 : Int) (w90 : World) (b10 : Nat) (s13 : Sl) (k88 : Int) (I5 : Int → Int → World → Prop) (most109 : Int) (μ5 : Int → Int → World → Nat) (w87 : World) (b96 : Bool) (w95 : World) (_K : Value → World → Prop) : Prop :=
 brB b96
 (∃ J37 : Int → World → Prop, (∀ (n110 : Int) (w108 : World), J37 n110 w108 →
 I6 n110 (wr (j91 + (1 : Int))) w108 ∧ μ6 n110 (wr (j91 + (1 : Int))) w108 < μ6 n107 j91 w90) ∧
 ∃ J38 : Bool → World → Prop, (∀ (b106 : Bool) (w105 : World), J38 b106 w105 →
 brB b106
 (J37 (wr (n107 + (1 : Int))) w105)
 (J37 n107 w105)) ∧
 ∃ s97 : Sl, w95.cell? ⟨b10, 5, none⟩ = some (s97.val) ∧
 ∃ a98 : Addr, s97.ptr = some a98 ∧ 0 ≤ j91 ∧ j91 < (s97.len : Int) ∧
 ∃ n99 : Int, w95.cell? (Addr.add a98 (Int.toNat j91 * 5)) = some (.int .i64 n99) ∧
 Calls Tryz.prog fn_hollowayref15_Gives #[.int .i64 n99] w95 fun e100 w101 => ∃ b102 : Bool, e100 = .returned (.bool b102) ∧
 brB b102
 (∃ a103 : Addr, s13.ptr = some a103 ∧ 0 ≤ j91 ∧ j91 < (s13.len : Int) ∧
 ∃ n104 : Int, w101.cell? (Addr.add a103 (Int.toNat j91 * 1)) = some (.int .i64 n104) ∧
 J38 (decide (n104 ≥ k88)) w101)
 (J38 false w101))
 (I5 (imax most109 n107) (wr (k88 + (1 : Int))) w95 ∧ μ5 (imax most109 n107) (wr (k88 + (1 : Int))) w95 < μ5 most109 k88 w87)
def hollowayref15_Least_sh (t1 : Int) (t2 : Int) (t3 : Int) (t4 : Int) (t5 : Int) (t6 : Sl) (t7 : Sl) (t8 : Int) (t9 : Sl) (w : World) (K : Value → World → Prop) : Prop :=
 ∀ (b10 : Nat) (w11 : World), b10 = w.heap.size → w11 = World.alloc w (.cells #[.int .i64 t1, .int .i64 t2, .int .i64 t3, .int .i64 t4, .int .i64 t5, t6.val, t7.val, .int .i64 t8, t9.val] T_api_Trace) →
 ∃ s12 : Sl, w11.cell? ⟨b10, 5, none⟩ = some (s12.val) ∧
 ∃ s13 : Sl, ∃ w14 : World, (Instr.makeSlice T_sl_int (.int .i64 (s12.len : Int)) (.int .i64 (s12.len : Int))).run Tryz.prog w11 = .ok s13.val w14 ∧
 ∃ (I1 : Int → World → Prop) (μ1 : Int → World → Nat), I1 (0 : Int) w14 ∧ ∀ (k16 : Int) (w15 : World), I1 k16 w15 →
 ∃ s17 : Sl, w15.cell? ⟨b10, 5, none⟩ = some (s17.val) ∧
 brB (decide (k16 < (s17.len : Int)))
 (∃ a18 : Addr, s13.ptr = some a18 ∧ 0 ≤ k16 ∧ k16 < (s13.len : Int) ∧
 wrOk w15 (Addr.add a18 (Int.toNat k16 * 1)) 1 ∧ ∀ w19 : World, w19 = stW w15 (Addr.add a18 (Int.toNat k16 * 1)) 0 [.int .i64 k16] →
 ∃ s20 : Sl, w19.cell? ⟨b10, 5, none⟩ = some (s20.val) ∧
 ∃ a21 : Addr, s20.ptr = some a21 ∧ 0 ≤ k16 ∧ k16 < (s20.len : Int) ∧
 ∃ n22 n23 : Int, ∃ n24 n25 n26 : Int, w19.cell? (Addr.add a21 (Int.toNat k16 * 5)) = some (.int .i64 n22) ∧ w19.cell? (Addr.add (Addr.add a21 (Int.toNat k16 * 5)) 1) = some (.int .i64 n23) ∧ w19.cell? (Addr.add (Addr.add a21 (Int.toNat k16 * 5)) 2) = some (.int .i64 n24) ∧ w19.cell? (Addr.add (Addr.add a21 (Int.toNat k16 * 5)) 3) = some (.int .i64 n25) ∧ w19.cell? (Addr.add (Addr.add a21 (Int.toNat k16 * 5)) 4) = some (.int .i64 n26) ∧
 Calls Tryz.prog fn_hollowayref15_Uses #[.agg #[.int .i64 n22, .int .i64 n23, .int .i64 n24, .int .i64 n25, .int .i64 n26]] w19 fun e27 w28 => ∃ s29 : Sl, e27 = .returned (s29.val) ∧
 ∃ s30 : Sl, w28.cell? ⟨b10, 5, none⟩ = some (s30.val) ∧
 ∃ a31 : Addr, s30.ptr = some a31 ∧ 0 ≤ k16 ∧ k16 < (s30.len : Int) ∧
 ∃ n32 n33 : Int, ∃ n34 n35 n36 : Int, w28.cell? (Addr.add a31 (Int.toNat k16 * 5)) = some (.int .i64 n32) ∧ w28.cell? (Addr.add (Addr.add a31 (Int.toNat k16 * 5)) 1) = some (.int .i64 n33) ∧ w28.cell? (Addr.add (Addr.add a31 (Int.toNat k16 * 5)) 2) = some (.int .i64 n34) ∧ w28.cell? (Addr.add (Addr.add a31 (Int.toNat k16 * 5)) 3) = some (.int .i64 n35) ∧ w28.cell? (Addr.add (Addr.add a31 (Int.toNat k16 * 5)) 4) = some (.int .i64 n36) ∧
 Calls Tryz.prog fn_hollowayref15_Outs #[.agg #[.int .i64 n32, .int .i64 n33, .int .i64 n34, .int .i64 n35, .int .i64 n36]] w28 fun e37 w38 => ∃ s39 : Sl, e37 = .returned (s39.val) ∧
 ∃ (I2 : Sl → Int → World → Prop) (μ2 : Sl → Int → World → Nat), I2 s29 (0 : Int) w38 ∧ ∀ (l44 : Sl) (j41 : Int) (w40 : World), I2 l44 j41 w40 →
 brB (decide (j41 < (s39.len : Int)))
 (∀ w42 : World, w42 = World.drew w40 →
 ∃ S43 : World → Prop, S43 w42 ∧
 ∃ s45 : Sl, held S43 ⟨b10, 6, none⟩ (s45.val) ∧
 ∃ a46 : Addr, s39.ptr = some a46 ∧ 0 ≤ j41 ∧ j41 < (s39.len : Int) ∧
 ∃ n47 : Int, held S43 (Addr.add a46 (Int.toNat j41 * 1)) (.int .i64 n47) ∧
 ∃ a48 : Addr, s45.ptr = some a48 ∧ 0 ≤ n47 ∧ n47 < (s45.len : Int) ∧
 ∃ s49 : Sl, held S43 (Addr.add (Addr.add a48 (Int.toNat n47 * 4)) 2) (s49.val) ∧
 ∃ s50 : Sl, held S43 ⟨b10, 6, none⟩ (s50.val) ∧
 ∃ a51 : Addr, s39.ptr = some a51 ∧ 0 ≤ j41 ∧ j41 < (s39.len : Int) ∧
 ∃ n52 : Int, held S43 (Addr.add a51 (Int.toNat j41 * 1)) (.int .i64 n52) ∧
 ∃ a53 : Addr, s50.ptr = some a53 ∧ 0 ≤ n52 ∧ n52 < (s50.len : Int) ∧
 ∃ s54 : Sl, held S43 (Addr.add (Addr.add a53 (Int.toNat n52 * 4)) 3) (s54.val) ∧
 ∃ s55 : Sl, ∃ w56 : World, (Builtin.append_ #[T_sl_int, T_sl_int] T_sl_int #[l44.val, s49.val]).run Tryz.prog w42 = .ok (s55.val) w56 ∧
 S43 w56 ∧
 ∃ s57 : Sl, ∃ w58 : World, (Builtin.append_ #[T_sl_int, T_sl_int] T_sl_int #[s55.val, s54.val]).run Tryz.prog w56 = .ok (s57.val) w58 ∧
 I2 s57 (wr (j41 + (1 : Int))) w58 ∧ μ2 s57 (wr (j41 + (1 : Int))) w58 < μ2 l44 j41 w40)
 (∃ (I3 : Int → World → Prop) (μ3 : Int → World → Nat), I3 (0 : Int) w40 ∧ ∀ (j60 : Int) (w59 : World), I3 j60 w59 →
 brB (decide (j60 < (l44.len : Int)))
 (∃ a61 : Addr, l44.ptr = some a61 ∧ 0 ≤ j60 ∧ j60 < (l44.len : Int) ∧
 ∃ n62 : Int, w59.cell? (Addr.add a61 (Int.toNat j60 * 1)) = some (.int .i64 n62) ∧
 ∃ a63 : Addr, s13.ptr = some a63 ∧ 0 ≤ n62 ∧ n62 < (s13.len : Int) ∧
 wrOk w59 (Addr.add a63 (Int.toNat n62 * 1)) 1 ∧ ∀ w64 : World, w64 = stW w59 (Addr.add a63 (Int.toNat n62 * 1)) 0 [.int .i64 k16] →
 I3 (wr (j60 + (1 : Int))) w64 ∧ μ3 (wr (j60 + (1 : Int))) w64 < μ3 j60 w59)
 (I1 (wr (k16 + (1 : Int))) w59 ∧ μ1 (wr (k16 + (1 : Int))) w59 < μ1 k16 w15)))
 (∀ w65 : World, w65 = World.drew w15 →
 ∃ S66 : World → Prop, S66 w65 ∧
 ∃ s67 : Sl, held S66 ⟨b10, 6, none⟩ (s67.val) ∧
 ∃ n68 : Int, held S66 ⟨b10, 7, none⟩ (.int .i64 n68) ∧
 ∃ a69 : Addr, s67.ptr = some a69 ∧ 0 ≤ n68 ∧ n68 < (s67.len : Int) ∧
 ∃ s70 : Sl, held S66 (Addr.add (Addr.add a69 (Int.toNat n68 * 4)) 2) (s70.val) ∧
 ∃ s71 : Sl, held S66 ⟨b10, 6, none⟩ (s71.val) ∧
 ∃ n72 : Int, held S66 ⟨b10, 7, none⟩ (.int .i64 n72) ∧
 ∃ a73 : Addr, s71.ptr = some a73 ∧ 0 ≤ n72 ∧ n72 < (s71.len : Int) ∧
 ∃ s74 : Sl, held S66 (Addr.add (Addr.add a73 (Int.toNat n72 * 4)) 3) (s74.val) ∧
 ∃ s75 : Sl, ∃ w76 : World, (Builtin.append_ #[T_sl_int, T_sl_int] T_sl_int #[.slice none 0 0, s70.val]).run Tryz.prog w65 = .ok (s75.val) w76 ∧
 S66 w76 ∧
 ∃ s77 : Sl, ∃ w78 : World, (Builtin.append_ #[T_sl_int, T_sl_int] T_sl_int #[s75.val, s74.val]).run Tryz.prog w76 = .ok (s77.val) w78 ∧
 ∃ (I4 : Int → World → Prop) (μ4 : Int → World → Nat), I4 (0 : Int) w78 ∧ ∀ (j80 : Int) (w79 : World), I4 j80 w79 →
 brB (decide (j80 < (s77.len : Int)))
 (∀ w81 : World, w81 = World.drew w79 →
 ∃ a82 : Addr, s77.ptr = some a82 ∧ 0 ≤ j80 ∧ j80 < (s77.len : Int) ∧
 ∃ n83 : Int, held (Lw w81) (Addr.add a82 (Int.toNat j80 * 1)) (.int .i64 n83) ∧
 ∃ s84 : Sl, held (Lw w81) ⟨b10, 5, none⟩ (s84.val) ∧
 ∃ a85 : Addr, s13.ptr = some a85 ∧ 0 ≤ n83 ∧ n83 < (s13.len : Int) ∧
 wrOk w81 (Addr.add a85 (Int.toNat n83 * 1)) 1 ∧ ∀ w86 : World, w86 = stW w81 (Addr.add a85 (Int.toNat n83 * 1)) 0 [.int .i64 (s84.len : Int)] →
 I4 (wr (j80 + (1 : Int))) w86 ∧ μ4 (wr (j80 + (1 : Int))) w86 < μ4 j80 w79)
 (∃ (I5 : Int → Int → World → Prop) (μ5 : Int → Int → World → Nat), I5 (0 : Int) (0 : Int) w79 ∧ ∀ (most109 : Int) (k88 : Int) (w87 : World), I5 most109 k88 w87 →
 ∃ s89 : Sl, w87.cell? ⟨b10, 5, none⟩ = some (s89.val) ∧
 brB (decide (k88 ≤ (s89.len : Int)))
 (∃ (I6 : Int → Int → World → Prop) (μ6 : Int → Int → World → Nat), I6 (0 : Int) (0 : Int) w87 ∧ ∀ (n107 : Int) (j91 : Int) (w90 : World), I6 n107 j91 w90 →
 ∃ s92 : Sl, w90.cell? ⟨b10, 5, none⟩ = some (s92.val) ∧
 brB (decide (j91 < (s92.len : Int)))
 (hollowayref15_Least_j1 I6 j91 (μ6) n107 w90 b10 s13 k88 I5 most109 (μ5) w87 (decide (j91 ≤ k88)) w90 K)
 (hollowayref15_Least_j1 I6 j91 (μ6) n107 w90 b10 s13 k88 I5 most109 (μ5) w87 false w90 K))
 (K (.int .i64 most109) w87)))
def hollowayref15_Least_an : An := ⟨[(3, [(4, .int .i64)]), (9, [(5, .sl), (7, .int .i64)]), (13, [(8, .int .i64)]), (18, [(10, .int .i64)]), (23, [(11, .int .i64), (12, .int .i64)]), (27, [(13, .int .i64), (14, .int .i64)])], [(11, (20, .st 0 (.st 1 (.st 2 (.st 3 (.st 4 (.st 5 (.st 6 (.st 7 (.st 8 (.st 9 (.st 11 (.st 12 (.st 13 (.st 14 (.st 15 (.st 16 (.st 17 (.st 18 (.st 19 (.ef 10 .done))))))))))))))))))), 1)), (16, (15, .st 0 (.st 1 (.st 2 (.st 3 (.st 4 (.st 5 (.st 6 (.st 8 (.st 9 (.st 10 (.st 11 (.st 12 (.st 13 (.st 14 (.ef 7 .done)))))))))))))), 1)), (20, (9, .st 0 (.st 1 (.st 2 (.st 3 (.st 4 (.st 5 (.st 6 (.st 7 (.st 8 .done)))))))), 0))], [(30, [(146, .bool)]), (28, [(13, .int .i64)])]⟩
theorem hollowayref15_Least_lift {t1 : Int} {t2 : Int} {t3 : Int} {t4 : Int} {t5 : Int} {t6 : Sl} {t7 : Sl} {t8 : Int} {t9 : Sl} {w : World} {K : Value → World → Prop} (h : hollowayref15_Least_sh t1 t2 t3 t4 t5 t6 t7 t8 t9 w K) : Calls Tryz.prog fn_hollowayref15_Least #[.agg #[.int .i64 t1, .int .i64 t2, .int .i64 t3, .int .i64 t4, .int .i64 t5, t6.val, t7.val, .int .i64 t8, t9.val]] w fun e w' => ∃ v, e = .returned v ∧ K v w' :=
   lift_calls (A := hollowayref15_Least_an) (c := bodyOf Tryz.f33) (args := [.agg #[.int .i64 t1, .int .i64 t2, .int .i64 t3, .int .i64 t4, .int .i64 t5, t6.val, t7.val, .int .i64 t8, t9.val]]) orc orc_wide Tryz.func33 (by kernel_rfl) (by kernel_rfl) (Eq.mp (by kernel_rfl : hollowayref15_Least_sh t1 t2 t3 t4 t5 t6 t7 t8 t9 w K = wpc orc Tryz.f33.ntmps hollowayref15_Least_an (bodyOf Tryz.f33) (argl 0 [.agg #[.int .i64 t1, .int .i64 t2, .int .i64 t3, .int .i64 t4, .int .i64 t5, t6.val, t7.val, .int .i64 t8, t9.val]]) w (retQ orc Tryz.f33.results.toList K)) h)

def hollowayref15_within_sh (v_1 : Int) (most2 : Int) (w : World) (K : Value → World → Prop) : Prop :=
 brB (decide (v_1 ≥ (0 : Int)))
 (K (.bool (decide (v_1 ≤ most2))) w)
 (K (.bool false) w)
def hollowayref15_within_an : An := ⟨[], [], []⟩
theorem hollowayref15_within_lift {v_1 : Int} {most2 : Int} {w : World} {K : Value → World → Prop} (h : hollowayref15_within_sh v_1 most2 w K) : Calls Tryz.prog fn_hollowayref15_within #[.int .i64 v_1, .int .i64 most2] w fun e w' => ∃ v, e = .returned v ∧ K v w' :=
   lift_calls (A := hollowayref15_within_an) (c := bodyOf Tryz.f38) (args := [.int .i64 v_1, .int .i64 most2]) orc orc_wide Tryz.func38 (by kernel_rfl) (by kernel_rfl) (Eq.mp (by kernel_rfl : hollowayref15_within_sh v_1 most2 w K = wpc orc Tryz.f38.ntmps hollowayref15_within_an (bodyOf Tryz.f38) (argl 0 [.int .i64 v_1, .int .i64 most2]) w (retQ orc Tryz.f38.results.toList K)) h)

def hollowayref15_named_sh (t1 : Int) (t2 : Int) (t3 : Int) (t4 : Int) (t5 : Int) (t6 : Sl) (t7 : Sl) (t8 : Int) (t9 : Sl) (l_10 : Sl) (than11 : Int) (w : World) (K : Value → World → Prop) : Prop :=
 ∀ (b12 : Nat) (w13 : World), b12 = w.heap.size → w13 = World.alloc w (.cells #[.int .i64 t1, .int .i64 t2, .int .i64 t3, .int .i64 t4, .int .i64 t5, t6.val, t7.val, .int .i64 t8, t9.val] T_api_Trace) →
 ∃ (I1 : Int → World → Prop) (μ1 : Int → World → Nat), I1 (0 : Int) w13 ∧ ∀ (i15 : Int) (w14 : World), I1 i15 w14 →
 brB (decide (i15 < (l_10.len : Int)))
 (∃ J7 : Bool → World → Prop, (∀ (b30 : Bool) (w29 : World), J7 b30 w29 →
 brB b30
 (K (.bool false) w29)
 (I1 (wr (i15 + (1 : Int))) w29 ∧ μ1 (wr (i15 + (1 : Int))) w29 < μ1 i15 w14)) ∧
 ∀ w16 : World, w16 = World.drew w14 →
 ∃ a17 : Addr, l_10.ptr = some a17 ∧ 0 ≤ i15 ∧ i15 < (l_10.len : Int) ∧
 ∃ n18 : Int, held (Lw w16) (Addr.add a17 (Int.toNat i15 * 1)) (.int .i64 n18) ∧
 brB (decide (n18 < (0 : Int)))
 (J7 true w16)
 (∃ a19 : Addr, l_10.ptr = some a19 ∧ 0 ≤ i15 ∧ i15 < (l_10.len : Int) ∧
 ∃ n20 : Int, held (Lw w16) (Addr.add a19 (Int.toNat i15 * 1)) (.int .i64 n20) ∧
 brB (decide (n20 ≥ than11))
 (J7 true w16)
 (∃ s21 : Sl, held (Lw w16) ⟨b12, 5, none⟩ (s21.val) ∧
 ∃ a22 : Addr, l_10.ptr = some a22 ∧ 0 ≤ i15 ∧ i15 < (l_10.len : Int) ∧
 ∃ n23 : Int, held (Lw w16) (Addr.add a22 (Int.toNat i15 * 1)) (.int .i64 n23) ∧
 ∃ a24 : Addr, s21.ptr = some a24 ∧ 0 ≤ n23 ∧ n23 < (s21.len : Int) ∧
 ∃ n25 : Int, held (Lw w16) (Addr.add a24 (Int.toNat n23 * 5)) (.int .i64 n25) ∧
 Calls Tryz.prog fn_hollowayref15_Gives #[.int .i64 n25] w16 fun e26 w27 => ∃ b28 : Bool, e26 = .returned (.bool b28) ∧
 J7 (!b28) w27)))
 (K (.bool true) w14)
def hollowayref15_named_an : An := ⟨[(2, [(7, .int .i64)])], [(4, (23, .st 0 (.st 1 (.st 2 (.st 3 (.st 4 (.st 5 (.st 6 (.st 7 (.st 8 (.st 9 (.st 10 (.st 11 (.st 12 (.st 13 (.st 14 (.st 15 (.st 16 (.st 17 (.st 18 (.st 19 (.st 20 (.st 21 (.st 22 .done)))))))))))))))))))))), 0))], [(5, [(39, .bool)])]⟩
theorem hollowayref15_named_lift {t1 : Int} {t2 : Int} {t3 : Int} {t4 : Int} {t5 : Int} {t6 : Sl} {t7 : Sl} {t8 : Int} {t9 : Sl} {l_10 : Sl} {than11 : Int} {w : World} {K : Value → World → Prop} (h : hollowayref15_named_sh t1 t2 t3 t4 t5 t6 t7 t8 t9 l_10 than11 w K) : Calls Tryz.prog fn_hollowayref15_named #[.agg #[.int .i64 t1, .int .i64 t2, .int .i64 t3, .int .i64 t4, .int .i64 t5, t6.val, t7.val, .int .i64 t8, t9.val], l_10.val, .int .i64 than11] w fun e w' => ∃ v, e = .returned v ∧ K v w' :=
   lift_calls (A := hollowayref15_named_an) (c := bodyOf Tryz.f41) (args := [.agg #[.int .i64 t1, .int .i64 t2, .int .i64 t3, .int .i64 t4, .int .i64 t5, t6.val, t7.val, .int .i64 t8, t9.val], l_10.val, .int .i64 than11]) orc orc_wide Tryz.func41 (by kernel_rfl) (by kernel_rfl) (Eq.mp (by kernel_rfl : hollowayref15_named_sh t1 t2 t3 t4 t5 t6 t7 t8 t9 l_10 than11 w K = wpc orc Tryz.f41.ntmps hollowayref15_named_an (bodyOf Tryz.f41) (argl 0 [.agg #[.int .i64 t1, .int .i64 t2, .int .i64 t3, .int .i64 t4, .int .i64 t5, t6.val, t7.val, .int .i64 t8, t9.val], l_10.val, .int .i64 than11]) w (retQ orc Tryz.f41.results.toList K)) h)

def hollowayref15_Uses_sh (i1 : Int) (i2 : Int) (i3 : Int) (i4 : Int) (i5 : Int) (w : World) (K : Value → World → Prop) : Prop :=
 ∀ (b6 : Nat) (w7 : World), b6 = w.heap.size → w7 = World.alloc w (.cells #[.int .i64 i1, .int .i64 i2, .int .i64 i3, .int .i64 i4, .int .i64 i5] T_api_Ins) →
 ∃ n8 : Int, w7.cell? ⟨b6, 0, none⟩ = some (.int .i64 n8) ∧
 brB (n8 == (4 : Int))
 (∃ n9 : Int, w7.cell? ⟨b6, 1, none⟩ = some (.int .i64 n9) ∧
 Calls Tryz.prog fn_hollowayref1_IsTwo #[.int .i64 n9] w7 fun e10 w11 => ∃ b12 : Bool, e10 = .returned (.bool b12) ∧
 brB b12
 (∃ n13 : Int, w11.cell? ⟨b6, 2, none⟩ = some (.int .i64 n13) ∧
 ∃ n14 : Int, w11.cell? ⟨b6, 3, none⟩ = some (.int .i64 n14) ∧
 ∀ (b15 : Nat) (w16 : World), b15 = w11.heap.size → w16 = World.alloc w11 (.cells #[.int .i64 n13, .int .i64 n14] T_int) →
 K (.slice (some ⟨b15, 0, none⟩) 2 2) w16)
 (∃ n17 : Int, w11.cell? ⟨b6, 2, none⟩ = some (.int .i64 n17) ∧
 ∀ (b18 : Nat) (w19 : World), b18 = w11.heap.size → w19 = World.alloc w11 (.cells #[.int .i64 n17] T_int) →
 K (.slice (some ⟨b18, 0, none⟩) 1 1) w19))
 (∃ J9 : Bool → World → Prop, (∀ (b21 : Bool) (w20 : World), J9 b21 w20 →
 brB b21
 (∃ n22 : Int, w20.cell? ⟨b6, 2, none⟩ = some (.int .i64 n22) ∧
 ∀ (b23 : Nat) (w24 : World), b23 = w20.heap.size → w24 = World.alloc w20 (.cells #[.int .i64 n22] T_int) →
 K (.slice (some ⟨b23, 0, none⟩) 1 1) w24)
 (∃ J15 : Bool → World → Prop, (∀ (b26 : Bool) (w25 : World), J15 b26 w25 →
 brB b26
 (∃ n27 : Int, w25.cell? ⟨b6, 2, none⟩ = some (.int .i64 n27) ∧
 ∃ n28 : Int, w25.cell? ⟨b6, 3, none⟩ = some (.int .i64 n28) ∧
 ∀ (b29 : Nat) (w30 : World), b29 = w25.heap.size → w30 = World.alloc w25 (.cells #[.int .i64 n27, .int .i64 n28] T_int) →
 K (.slice (some ⟨b29, 0, none⟩) 2 2) w30)
 (K (.slice none 0 0) w25)) ∧
 brB (n8 == (6 : Int))
 (J15 (n8 == (6 : Int)) w20)
 (J15 (n8 == (9 : Int)) w20))) ∧
 brB (n8 == (5 : Int))
 (J9 (n8 == (5 : Int)) w7)
 (brB (n8 == (7 : Int))
 (J9 (n8 == (7 : Int)) w7)
 (brB (n8 == (8 : Int))
 (J9 (n8 == (8 : Int)) w7)
 (brB (n8 == (10 : Int))
 (J9 (n8 == (10 : Int)) w7)
 (J9 (n8 == (11 : Int)) w7)))))
def hollowayref15_Uses_an : An := ⟨[], [], [(14, [(27, .bool)]), (11, [(18, .bool)])]⟩
theorem hollowayref15_Uses_lift {i1 : Int} {i2 : Int} {i3 : Int} {i4 : Int} {i5 : Int} {w : World} {K : Value → World → Prop} (h : hollowayref15_Uses_sh i1 i2 i3 i4 i5 w K) : Calls Tryz.prog fn_hollowayref15_Uses #[.agg #[.int .i64 i1, .int .i64 i2, .int .i64 i3, .int .i64 i4, .int .i64 i5]] w fun e w' => ∃ v, e = .returned v ∧ K v w' :=
   lift_calls (A := hollowayref15_Uses_an) (c := bodyOf Tryz.f42) (args := [.agg #[.int .i64 i1, .int .i64 i2, .int .i64 i3, .int .i64 i4, .int .i64 i5]]) orc orc_wide Tryz.func42 (by kernel_rfl) (by kernel_rfl) (Eq.mp (by kernel_rfl : hollowayref15_Uses_sh i1 i2 i3 i4 i5 w K = wpc orc Tryz.f42.ntmps hollowayref15_Uses_an (bodyOf Tryz.f42) (argl 0 [.agg #[.int .i64 i1, .int .i64 i2, .int .i64 i3, .int .i64 i4, .int .i64 i5]]) w (retQ orc Tryz.f42.results.toList K)) h)

def hollowayref15_Outs_sh (i1 : Int) (i2 : Int) (i3 : Int) (i4 : Int) (i5 : Int) (w : World) (K : Value → World → Prop) : Prop :=
 ∀ (b6 : Nat) (w7 : World), b6 = w.heap.size → w7 = World.alloc w (.cells #[.int .i64 i1, .int .i64 i2, .int .i64 i3, .int .i64 i4, .int .i64 i5] T_api_Ins) →
 ∃ n8 : Int, w7.cell? ⟨b6, 0, none⟩ = some (.int .i64 n8) ∧
 brB (n8 == (4 : Int))
 (∃ J5 : Bool → World → Prop, (∀ (b12 : Bool) (w11 : World), J5 b12 w11 →
 brB b12
 (∃ n13 : Int, w11.cell? ⟨b6, 4, none⟩ = some (.int .i64 n13) ∧
 ∀ (b14 : Nat) (w15 : World), b14 = w11.heap.size → w15 = World.alloc w11 (.cells #[.int .i64 n13] T_int) →
 K (.slice (some ⟨b14, 0, none⟩) 1 1) w15)
 (K (.slice none 0 0) w11)) ∧
 ∃ n9 : Int, w7.cell? ⟨b6, 1, none⟩ = some (.int .i64 n9) ∧
 brB (n9 == (14 : Int))
 (J5 true w7)
 (∃ n10 : Int, w7.cell? ⟨b6, 1, none⟩ = some (.int .i64 n10) ∧
 J5 (n10 == (15 : Int)) w7))
 (∃ J7 : Bool → World → Prop, (∀ (b17 : Bool) (w16 : World), J7 b17 w16 →
 brB b17
 (∃ n18 : Int, w16.cell? ⟨b6, 4, none⟩ = some (.int .i64 n18) ∧
 ∀ (b19 : Nat) (w20 : World), b19 = w16.heap.size → w20 = World.alloc w16 (.cells #[.int .i64 n18] T_int) →
 K (.slice (some ⟨b19, 0, none⟩) 1 1) w20)
 (brB (n8 == (6 : Int))
 (∃ n21 : Int, w16.cell? ⟨b6, 4, none⟩ = some (.int .i64 n21) ∧
 ∃ n22 : Int, w16.cell? ⟨b6, 1, none⟩ = some (.int .i64 n22) ∧
 ∀ (b23 : Nat) (w24 : World), b23 = w16.heap.size → w24 = World.alloc w16 (.cells #[.int .i64 n21, .int .i64 n22] T_int) →
 K (.slice (some ⟨b23, 0, none⟩) 2 2) w24)
 (K (.slice none 0 0) w16))) ∧
 brB (n8 == (5 : Int))
 (J7 (n8 == (5 : Int)) w7)
 (brB (n8 == (7 : Int))
 (J7 (n8 == (7 : Int)) w7)
 (brB (n8 == (8 : Int))
 (J7 (n8 == (8 : Int)) w7)
 (brB (n8 == (9 : Int))
 (J7 (n8 == (9 : Int)) w7)
 (brB (n8 == (10 : Int))
 (J7 (n8 == (10 : Int)) w7)
 (J7 (n8 == (11 : Int)) w7))))))
def hollowayref15_Outs_an : An := ⟨[], [], [(4, [(14, .bool)]), (11, [(18, .bool)])]⟩
theorem hollowayref15_Outs_lift {i1 : Int} {i2 : Int} {i3 : Int} {i4 : Int} {i5 : Int} {w : World} {K : Value → World → Prop} (h : hollowayref15_Outs_sh i1 i2 i3 i4 i5 w K) : Calls Tryz.prog fn_hollowayref15_Outs #[.agg #[.int .i64 i1, .int .i64 i2, .int .i64 i3, .int .i64 i4, .int .i64 i5]] w fun e w' => ∃ v, e = .returned v ∧ K v w' :=
   lift_calls (A := hollowayref15_Outs_an) (c := bodyOf Tryz.f43) (args := [.agg #[.int .i64 i1, .int .i64 i2, .int .i64 i3, .int .i64 i4, .int .i64 i5]]) orc orc_wide Tryz.func43 (by kernel_rfl) (by kernel_rfl) (Eq.mp (by kernel_rfl : hollowayref15_Outs_sh i1 i2 i3 i4 i5 w K = wpc orc Tryz.f43.ntmps hollowayref15_Outs_an (bodyOf Tryz.f43) (argl 0 [.agg #[.int .i64 i1, .int .i64 i2, .int .i64 i3, .int .i64 i4, .int .i64 i5]]) w (retQ orc Tryz.f43.results.toList K)) h)

def hollowayref15_out_sh (t1 : Int) (t2 : Int) (t3 : Int) (t4 : Int) (t5 : Int) (t6 : Sl) (t7 : Sl) (t8 : Int) (t9 : Sl) (x_10 : Int) (at_11 : Int) (w : World) (K : Value → World → Prop) : Prop :=
 ∀ (b12 : Nat) (w13 : World), b12 = w.heap.size → w13 = World.alloc w (.cells #[.int .i64 t1, .int .i64 t2, .int .i64 t3, .int .i64 t4, .int .i64 t5, t6.val, t7.val, .int .i64 t8, t9.val] T_api_Trace) →
 ∀ w14 : World, w14 = World.drew w13 →
 ∃ S15 : World → Prop, S15 w14 ∧
 brB (decide (x_10 ≥ (0 : Int)))
 (∃ s16 : Sl, held S15 ⟨b12, 6, none⟩ (s16.val) ∧
 brB (decide (x_10 < (s16.len : Int)))
 (∃ n17 n18 : Int, ∃ n19 n20 n21 : Int, ∃ s22 s23 : Sl, ∃ n24 : Int, ∃ s25 : Sl, held S15 ⟨b12, 0, none⟩ (.int .i64 n17) ∧ held S15 ⟨b12, 1, none⟩ (.int .i64 n18) ∧ held S15 ⟨b12, 2, none⟩ (.int .i64 n19) ∧ held S15 ⟨b12, 3, none⟩ (.int .i64 n20) ∧ held S15 ⟨b12, 4, none⟩ (.int .i64 n21) ∧ held S15 ⟨b12, 5, none⟩ (s22.val) ∧ held S15 ⟨b12, 6, none⟩ (s23.val) ∧ held S15 ⟨b12, 7, none⟩ (.int .i64 n24) ∧ held S15 ⟨b12, 8, none⟩ (s25.val) ∧
 ∃ s26 : Sl, held S15 ⟨b12, 6, none⟩ (s26.val) ∧
 ∃ a27 : Addr, s26.ptr = some a27 ∧ 0 ≤ x_10 ∧ x_10 < (s26.len : Int) ∧
 ∃ s28 : Sl, held S15 (Addr.add (Addr.add a27 (Int.toNat x_10 * 4)) 2) (s28.val) ∧
 Calls Tryz.prog fn_hollowayref15_named #[.agg #[.int .i64 n17, .int .i64 n18, .int .i64 n19, .int .i64 n20, .int .i64 n21, s22.val, s23.val, .int .i64 n24, s25.val], s28.val, .int .i64 at_11] w14 fun e29 w30 => ∃ b31 : Bool, e29 = .returned (.bool b31) ∧
 S15 w30 ∧
 brB b31
 (∃ n32 n33 : Int, ∃ n34 n35 n36 : Int, ∃ s37 s38 : Sl, ∃ n39 : Int, ∃ s40 : Sl, held S15 ⟨b12, 0, none⟩ (.int .i64 n32) ∧ held S15 ⟨b12, 1, none⟩ (.int .i64 n33) ∧ held S15 ⟨b12, 2, none⟩ (.int .i64 n34) ∧ held S15 ⟨b12, 3, none⟩ (.int .i64 n35) ∧ held S15 ⟨b12, 4, none⟩ (.int .i64 n36) ∧ held S15 ⟨b12, 5, none⟩ (s37.val) ∧ held S15 ⟨b12, 6, none⟩ (s38.val) ∧ held S15 ⟨b12, 7, none⟩ (.int .i64 n39) ∧ held S15 ⟨b12, 8, none⟩ (s40.val) ∧
 ∃ s41 : Sl, held S15 ⟨b12, 6, none⟩ (s41.val) ∧
 ∃ a42 : Addr, s41.ptr = some a42 ∧ 0 ≤ x_10 ∧ x_10 < (s41.len : Int) ∧
 ∃ s43 : Sl, held S15 (Addr.add (Addr.add a42 (Int.toNat x_10 * 4)) 3) (s43.val) ∧
 Calls Tryz.prog fn_hollowayref15_named #[.agg #[.int .i64 n32, .int .i64 n33, .int .i64 n34, .int .i64 n35, .int .i64 n36, s37.val, s38.val, .int .i64 n39, s40.val], s43.val, .int .i64 at_11] w30 fun e44 w45 => ∃ b46 : Bool, e44 = .returned (.bool b46) ∧
 K (.bool b46) w45)
 (K (.bool false) w30))
 (K (.bool false) w14))
 (K (.bool false) w14)
def hollowayref15_out_an : An := ⟨[], [(1, (29, .st 0 (.st 1 (.st 2 (.st 3 (.st 4 (.st 5 (.st 6 (.st 7 (.st 8 (.st 9 (.st 10 (.st 11 (.st 12 (.st 13 (.st 14 (.st 15 (.st 16 (.st 17 (.ef 18 (.st 19 (.st 20 (.st 21 (.st 22 (.st 23 (.st 24 (.st 25 (.st 26 (.st 27 (.st 28 .done)))))))))))))))))))))))))))), 1))], []⟩
theorem hollowayref15_out_lift {t1 : Int} {t2 : Int} {t3 : Int} {t4 : Int} {t5 : Int} {t6 : Sl} {t7 : Sl} {t8 : Int} {t9 : Sl} {x_10 : Int} {at_11 : Int} {w : World} {K : Value → World → Prop} (h : hollowayref15_out_sh t1 t2 t3 t4 t5 t6 t7 t8 t9 x_10 at_11 w K) : Calls Tryz.prog fn_hollowayref15_out #[.agg #[.int .i64 t1, .int .i64 t2, .int .i64 t3, .int .i64 t4, .int .i64 t5, t6.val, t7.val, .int .i64 t8, t9.val], .int .i64 x_10, .int .i64 at_11] w fun e w' => ∃ v, e = .returned v ∧ K v w' :=
   lift_calls (A := hollowayref15_out_an) (c := bodyOf Tryz.f44) (args := [.agg #[.int .i64 t1, .int .i64 t2, .int .i64 t3, .int .i64 t4, .int .i64 t5, t6.val, t7.val, .int .i64 t8, t9.val], .int .i64 x_10, .int .i64 at_11]) orc orc_wide Tryz.func44 (by kernel_rfl) (by kernel_rfl) (Eq.mp (by kernel_rfl : hollowayref15_out_sh t1 t2 t3 t4 t5 t6 t7 t8 t9 x_10 at_11 w K = wpc orc Tryz.f44.ntmps hollowayref15_out_an (bodyOf Tryz.f44) (argl 0 [.agg #[.int .i64 t1, .int .i64 t2, .int .i64 t3, .int .i64 t4, .int .i64 t5, t6.val, t7.val, .int .i64 t8, t9.val], .int .i64 x_10, .int .i64 at_11]) w (retQ orc Tryz.f44.results.toList K)) h)

def hollowayref15_leave_sh (t1 : Int) (t2 : Int) (t3 : Int) (t4 : Int) (t5 : Int) (t6 : Sl) (t7 : Sl) (t8 : Int) (t9 : Sl) (s10 : Int) (s11 : Int) (s12 : Sl) (s13 : Sl) (s14 : Sl) (s15 : ByteArray) (s16 : ByteArray) (s17 : Int) (s18 : Int) (s19 : Int) (v_20 : Sl) (exit21 : Int) (w : World) (K : Value → World → Prop) : Prop :=
 ∀ (b22 : Nat) (w23 : World), b22 = w.heap.size → w23 = World.alloc w (.cells #[.int .i64 t1, .int .i64 t2, .int .i64 t3, .int .i64 t4, .int .i64 t5, t6.val, t7.val, .int .i64 t8, t9.val] T_api_Trace) →
 ∀ (b24 : Nat) (w25 : World), b24 = w23.heap.size → w25 = World.alloc w23 (.cells #[.int .i64 s10, .int .i64 s11, s12.val, s13.val, s14.val, .string s15, .string s16, .int .i64 s17, .int .i64 s18, .int .i64 s19] T_api_State) →
 ∀ (b26 : Nat) (w27 : World), b26 = w25.heap.size → w27 = World.alloc w25 (.cells #[.int .i64 (0 : Int), .int .i64 (0 : Int), .slice none 0 0, .slice none 0 0, .slice none 0 0, .string (bs []), .string (bs []), .int .i64 (0 : Int), .int .i64 (0 : Int), .int .i64 (0 : Int)] T_api_State) →
 ∃ s28 : Sl, w27.cell? ⟨b22, 6, none⟩ = some (s28.val) ∧
 ∃ a29 : Addr, s28.ptr = some a29 ∧ 0 ≤ exit21 ∧ exit21 < (s28.len : Int) ∧
 ∃ n30 n31 : Int, ∃ s32 s33 : Sl, w27.cell? (Addr.add a29 (Int.toNat exit21 * 4)) = some (.int .i64 n30) ∧ w27.cell? (Addr.add (Addr.add a29 (Int.toNat exit21 * 4)) 1) = some (.int .i64 n31) ∧ w27.cell? (Addr.add (Addr.add a29 (Int.toNat exit21 * 4)) 2) = some (s32.val) ∧ w27.cell? (Addr.add (Addr.add a29 (Int.toNat exit21 * 4)) 3) = some (s33.val) ∧
 ∀ (b34 : Nat) (w35 : World), b34 = w27.heap.size → w35 = World.alloc w27 (.cells #[.int .i64 (0 : Int), .int .i64 (0 : Int), .slice none 0 0, .slice none 0 0] T_api_Out) →
 wrOk w35 ⟨b34, 0, none⟩ 4 ∧ ∀ w36 : World, w36 = stW w35 ⟨b34, 0, none⟩ 0 [.int .i64 n30, .int .i64 n31, s32.val, s33.val] →
 ∃ n37 : Int, w36.cell? ⟨b34, 0, none⟩ = some (.int .i64 n37) ∧
 wrOk w36 ⟨b24, 0, none⟩ 1 ∧ ∀ w38 : World, w38 = stW w36 ⟨b24, 0, none⟩ 0 [.int .i64 n37] →
 ∃ s39 : Sl, w38.cell? ⟨b24, 2, none⟩ = some (s39.val) ∧
 ∃ s40 : Sl, w38.cell? ⟨b24, 2, none⟩ = some (s40.val) ∧
 ∃ n41 : Int, w38.cell? ⟨b22, 1, none⟩ = some (.int .i64 n41) ∧
 0 ≤ (wr ((s40.len : Int) - n41)) ∧ (wr ((s40.len : Int) - n41)) ≤ (s39.cap : Int) ∧ ∀ s42 : Sl, s42 = Sl.sub s39.ptr s39.cap 0 (Int.toNat (wr ((s40.len : Int) - n41))) 1 →
 ∃ s43 : Sl, ∃ w44 : World, (Builtin.append_ #[T_sl_int, T_sl_int] T_sl_int #[.slice none 0 0, s42.val]).run Tryz.prog w38 = .ok (s43.val) w44 ∧
 ∃ (I1 : Sl → Int → World → Prop) (μ1 : Sl → Int → World → Nat), I1 s43 (0 : Int) w44 ∧ ∀ (l48 : Sl) (k46 : Int) (w45 : World), I1 l48 k46 w45 →
 ∃ s47 : Sl, w45.cell? ⟨b34, 2, none⟩ = some (s47.val) ∧
 brB (decide (k46 < (s47.len : Int)))
 (∃ s49 : Sl, w45.cell? ⟨b34, 2, none⟩ = some (s49.val) ∧
 ∃ a50 : Addr, s49.ptr = some a50 ∧ 0 ≤ k46 ∧ k46 < (s49.len : Int) ∧
 ∃ n51 : Int, w45.cell? (Addr.add a50 (Int.toNat k46 * 1)) = some (.int .i64 n51) ∧
 ∃ a52 : Addr, v_20.ptr = some a52 ∧ 0 ≤ n51 ∧ n51 < (v_20.len : Int) ∧
 ∃ n53 : Int, w45.cell? (Addr.add a52 (Int.toNat n51 * 1)) = some (.int .i64 n53) ∧
 ∀ (b54 : Nat) (w55 : World), b54 = w45.heap.size → w55 = World.alloc w45 (.cells #[.int .i64 n53] T_int) →
 ∃ s56 : Sl, ∃ w57 : World, (Builtin.append_ #[T_sl_int, T_sl_int] T_sl_int #[l48.val, .slice (some ⟨b54, 0, none⟩) 1 1]).run Tryz.prog w55 = .ok (s56.val) w57 ∧
 I1 s56 (wr (k46 + (1 : Int))) w57 ∧ μ1 s56 (wr (k46 + (1 : Int))) w57 < μ1 l48 k46 w45)
 (∃ s58 : Sl, w45.cell? ⟨b24, 3, none⟩ = some (s58.val) ∧
 ∃ s59 : Sl, w45.cell? ⟨b24, 3, none⟩ = some (s59.val) ∧
 ∃ n60 : Int, w45.cell? ⟨b22, 2, none⟩ = some (.int .i64 n60) ∧
 0 ≤ (wr ((s59.len : Int) - n60)) ∧ (wr ((s59.len : Int) - n60)) ≤ (s58.cap : Int) ∧ ∀ s61 : Sl, s61 = Sl.sub s58.ptr s58.cap 0 (Int.toNat (wr ((s59.len : Int) - n60))) 1 →
 ∃ s62 : Sl, ∃ w63 : World, (Builtin.append_ #[T_sl_int, T_sl_int] T_sl_int #[.slice none 0 0, s61.val]).run Tryz.prog w45 = .ok (s62.val) w63 ∧
 ∃ (I2 : Sl → Int → World → Prop) (μ2 : Sl → Int → World → Nat), I2 s62 (0 : Int) w63 ∧ ∀ (b67 : Sl) (k65 : Int) (w64 : World), I2 b67 k65 w64 →
 ∃ s66 : Sl, w64.cell? ⟨b34, 3, none⟩ = some (s66.val) ∧
 brB (decide (k65 < (s66.len : Int)))
 (∃ s68 : Sl, w64.cell? ⟨b34, 3, none⟩ = some (s68.val) ∧
 ∃ a69 : Addr, s68.ptr = some a69 ∧ 0 ≤ k65 ∧ k65 < (s68.len : Int) ∧
 ∃ n70 : Int, w64.cell? (Addr.add a69 (Int.toNat k65 * 1)) = some (.int .i64 n70) ∧
 ∃ a71 : Addr, v_20.ptr = some a71 ∧ 0 ≤ n70 ∧ n70 < (v_20.len : Int) ∧
 ∃ n72 : Int, w64.cell? (Addr.add a71 (Int.toNat n70 * 1)) = some (.int .i64 n72) ∧
 ∀ (b73 : Nat) (w74 : World), b73 = w64.heap.size → w74 = World.alloc w64 (.cells #[.int .i64 n72] T_int) →
 ∃ s75 : Sl, ∃ w76 : World, (Builtin.append_ #[T_sl_int, T_sl_int] T_sl_int #[b67.val, .slice (some ⟨b73, 0, none⟩) 1 1]).run Tryz.prog w74 = .ok (s75.val) w76 ∧
 I2 s75 (wr (k65 + (1 : Int))) w76 ∧ μ2 s75 (wr (k65 + (1 : Int))) w76 < μ2 b67 k65 w64)
 (wrOk w64 ⟨b24, 2, none⟩ 1 ∧ ∀ w77 : World, w77 = stW w64 ⟨b24, 2, none⟩ 0 [l48.val] →
 wrOk w77 ⟨b24, 3, none⟩ 1 ∧ ∀ w78 : World, w78 = stW w77 ⟨b24, 3, none⟩ 0 [b67.val] →
 ∃ n79 n80 : Int, ∃ s81 s82 s83 : Sl, ∃ t84 t85 : ByteArray, ∃ n86 n87 n88 : Int, w78.cell? ⟨b24, 0, none⟩ = some (.int .i64 n79) ∧ w78.cell? ⟨b24, 1, none⟩ = some (.int .i64 n80) ∧ w78.cell? ⟨b24, 2, none⟩ = some (s81.val) ∧ w78.cell? ⟨b24, 3, none⟩ = some (s82.val) ∧ w78.cell? ⟨b24, 4, none⟩ = some (s83.val) ∧ w78.cell? ⟨b24, 5, none⟩ = some (.string t84) ∧ w78.cell? ⟨b24, 6, none⟩ = some (.string t85) ∧ w78.cell? ⟨b24, 7, none⟩ = some (.int .i64 n86) ∧ w78.cell? ⟨b24, 8, none⟩ = some (.int .i64 n87) ∧ w78.cell? ⟨b24, 9, none⟩ = some (.int .i64 n88) ∧
 wrOk w78 ⟨b26, 0, none⟩ 10 ∧ ∀ w89 : World, w89 = stW w78 ⟨b26, 0, none⟩ 0 [.int .i64 n79, .int .i64 n80, s81.val, s82.val, s83.val, .string t84, .string t85, .int .i64 n86, .int .i64 n87, .int .i64 n88] →
 ∃ r90 r91 : Int, ∃ r92 r93 r94 : Sl, ∃ r95 r96 : ByteArray, ∃ r97 r98 r99 : Int, w89.cell? ⟨b26, 0, none⟩ = some (.int .i64 r90) ∧ w89.cell? ⟨b26, 1, none⟩ = some (.int .i64 r91) ∧ w89.cell? ⟨b26, 2, none⟩ = some (r92.val) ∧ w89.cell? ⟨b26, 3, none⟩ = some (r93.val) ∧ w89.cell? ⟨b26, 4, none⟩ = some (r94.val) ∧ w89.cell? ⟨b26, 5, none⟩ = some (.string r95) ∧ w89.cell? ⟨b26, 6, none⟩ = some (.string r96) ∧ w89.cell? ⟨b26, 7, none⟩ = some (.int .i64 r97) ∧ w89.cell? ⟨b26, 8, none⟩ = some (.int .i64 r98) ∧ w89.cell? ⟨b26, 9, none⟩ = some (.int .i64 r99) ∧
 K (.agg #[.int .i64 r90, .int .i64 r91, r92.val, r93.val, r94.val, .string r95, .string r96, .int .i64 r97, .int .i64 r98, .int .i64 r99]) w89))
def hollowayref15_leave_an : An := ⟨[(5, [(10, .sl), (11, .int .i64)]), (10, [(12, .sl), (13, .int .i64)])], [], []⟩
theorem hollowayref15_leave_lift {t1 : Int} {t2 : Int} {t3 : Int} {t4 : Int} {t5 : Int} {t6 : Sl} {t7 : Sl} {t8 : Int} {t9 : Sl} {s10 : Int} {s11 : Int} {s12 : Sl} {s13 : Sl} {s14 : Sl} {s15 : ByteArray} {s16 : ByteArray} {s17 : Int} {s18 : Int} {s19 : Int} {v_20 : Sl} {exit21 : Int} {w : World} {K : Value → World → Prop} (h : hollowayref15_leave_sh t1 t2 t3 t4 t5 t6 t7 t8 t9 s10 s11 s12 s13 s14 s15 s16 s17 s18 s19 v_20 exit21 w K) : Calls Tryz.prog fn_hollowayref15_leave #[.agg #[.int .i64 t1, .int .i64 t2, .int .i64 t3, .int .i64 t4, .int .i64 t5, t6.val, t7.val, .int .i64 t8, t9.val], .agg #[.int .i64 s10, .int .i64 s11, s12.val, s13.val, s14.val, .string s15, .string s16, .int .i64 s17, .int .i64 s18, .int .i64 s19], v_20.val, .int .i64 exit21] w fun e w' => ∃ v, e = .returned v ∧ K v w' :=
   lift_calls (A := hollowayref15_leave_an) (c := bodyOf Tryz.f51) (args := [.agg #[.int .i64 t1, .int .i64 t2, .int .i64 t3, .int .i64 t4, .int .i64 t5, t6.val, t7.val, .int .i64 t8, t9.val], .agg #[.int .i64 s10, .int .i64 s11, s12.val, s13.val, s14.val, .string s15, .string s16, .int .i64 s17, .int .i64 s18, .int .i64 s19], v_20.val, .int .i64 exit21]) orc orc_wide Tryz.func51 (by kernel_rfl) (by kernel_rfl) (Eq.mp (by kernel_rfl : hollowayref15_leave_sh t1 t2 t3 t4 t5 t6 t7 t8 t9 s10 s11 s12 s13 s14 s15 s16 s17 s18 s19 v_20 exit21 w K = wpc orc Tryz.f51.ntmps hollowayref15_leave_an (bodyOf Tryz.f51) (argl 0 [.agg #[.int .i64 t1, .int .i64 t2, .int .i64 t3, .int .i64 t4, .int .i64 t5, t6.val, t7.val, .int .i64 t8, t9.val], .agg #[.int .i64 s10, .int .i64 s11, s12.val, s13.val, s14.val, .string s15, .string s16, .int .i64 s17, .int .i64 s18, .int .i64 s19], v_20.val, .int .i64 exit21]) w (retQ orc Tryz.f51.results.toList K)) h)

def hollowayref15_Gives_sh (op1 : Int) (w : World) (K : Value → World → Prop) : Prop :=
 brB (op1 == (1 : Int))
 (K (.bool true) w)
 (brB (op1 == (2 : Int))
 (K (.bool true) w)
 (brB (op1 == (3 : Int))
 (K (.bool true) w)
 (brB (op1 == (4 : Int))
 (K (.bool true) w)
 (brB (op1 == (5 : Int))
 (K (.bool true) w)
 (K (.bool (op1 == (12 : Int))) w)))))
def hollowayref15_Gives_an : An := ⟨[], [], []⟩
theorem hollowayref15_Gives_lift {op1 : Int} {w : World} {K : Value → World → Prop} (h : hollowayref15_Gives_sh op1 w K) : Calls Tryz.prog fn_hollowayref15_Gives #[.int .i64 op1] w fun e w' => ∃ v, e = .returned v ∧ K v w' :=
   lift_calls (A := hollowayref15_Gives_an) (c := bodyOf Tryz.f96) (args := [.int .i64 op1]) orc orc_wide Tryz.func96 (by kernel_rfl) (by kernel_rfl) (Eq.mp (by kernel_rfl : hollowayref15_Gives_sh op1 w K = wpc orc Tryz.f96.ntmps hollowayref15_Gives_an (bodyOf Tryz.f96) (argl 0 [.int .i64 op1]) w (retQ orc Tryz.f96.results.toList K)) h)

end Go.Proofs.YtblmoilneiffgaaGreat
