/- The lifted texts of the packages ir, fold, forward, prune. -/
import Derived.Test.YtblmoilneiffgaaGreatJ4

/- Functions of Ir, read without their frames; that each is enough. Printed by a program of mine (wip/lift/gen.py). -/
set_option maxRecDepth 100000
namespace Go.Proofs.YtblmoilneiffgaaGreat
open Go.RowKit

def ir_Right_sh (t1 : Int) (t2 : Int) (t3 : Int) (t4 : Int) (t5 : Int) (t6 : Sl) (t7 : Sl) (t8 : Int) (t9 : Sl) (w : World) (K : Value → World → Prop) : Prop :=
 ∀ (b10 : Nat) (w11 : World), b10 = w.heap.size → w11 = World.alloc w (.cells #[.int .i64 t1, .int .i64 t2, .int .i64 t3, .int .i64 t4, .int .i64 t5, t6.val, t7.val, .int .i64 t8, t9.val] T_api_Trace) →
 ∃ J3 : Bool → World → Prop, (∀ (b47 : Bool) (w46 : World), J3 b47 w46 →
 brB b47
 (K (.bool false) w46)
 (∃ s48 : Sl, w46.cell? ⟨b10, 6, none⟩ = some (s48.val) ∧
 ∃ (I1 : Int → World → Prop) (μ1 : Int → World → Nat), I1 (0 : Int) w46 ∧ ∀ (n50 : Int) (w49 : World), I1 n50 w49 →
 brB (decide (n50 < (s48.len : Int)))
 (∃ a51 : Addr, s48.ptr = some a51 ∧ 0 ≤ n50 ∧ n50 < (s48.len : Int) ∧
 ∃ n52 n53 : Int, ∃ s54 s55 : Sl, w49.cell? (Addr.add a51 (Int.toNat n50 * 4)) = some (.int .i64 n52) ∧ w49.cell? (Addr.add (Addr.add a51 (Int.toNat n50 * 4)) 1) = some (.int .i64 n53) ∧ w49.cell? (Addr.add (Addr.add a51 (Int.toNat n50 * 4)) 2) = some (s54.val) ∧ w49.cell? (Addr.add (Addr.add a51 (Int.toNat n50 * 4)) 3) = some (s55.val) ∧
 ∀ (b56 : Nat) (w57 : World), b56 = w49.heap.size → w57 = World.alloc w49 (.cells #[.int .i64 (0 : Int), .int .i64 (0 : Int), .slice none 0 0, .slice none 0 0] T_api_Out) →
 wrOk w57 ⟨b56, 0, none⟩ 4 ∧ ∀ w58 : World, w58 = stW w57 ⟨b56, 0, none⟩ 0 [.int .i64 n52, .int .i64 n53, s54.val, s55.val] →
 ∃ n59 n60 : Int, ∃ n61 n62 n63 : Int, ∃ s64 s65 : Sl, ∃ n66 : Int, ∃ s67 : Sl, w58.cell? ⟨b10, 0, none⟩ = some (.int .i64 n59) ∧ w58.cell? ⟨b10, 1, none⟩ = some (.int .i64 n60) ∧ w58.cell? ⟨b10, 2, none⟩ = some (.int .i64 n61) ∧ w58.cell? ⟨b10, 3, none⟩ = some (.int .i64 n62) ∧ w58.cell? ⟨b10, 4, none⟩ = some (.int .i64 n63) ∧ w58.cell? ⟨b10, 5, none⟩ = some (s64.val) ∧ w58.cell? ⟨b10, 6, none⟩ = some (s65.val) ∧ w58.cell? ⟨b10, 7, none⟩ = some (.int .i64 n66) ∧ w58.cell? ⟨b10, 8, none⟩ = some (s67.val) ∧
 ∃ n68 n69 : Int, ∃ s70 s71 : Sl, w58.cell? ⟨b56, 0, none⟩ = some (.int .i64 n68) ∧ w58.cell? ⟨b56, 1, none⟩ = some (.int .i64 n69) ∧ w58.cell? ⟨b56, 2, none⟩ = some (s70.val) ∧ w58.cell? ⟨b56, 3, none⟩ = some (s71.val) ∧
 Calls Tryz.prog fn_ir_out #[.agg #[.int .i64 n59, .int .i64 n60, .int .i64 n61, .int .i64 n62, .int .i64 n63, s64.val, s65.val, .int .i64 n66, s67.val], .agg #[.int .i64 n68, .int .i64 n69, s70.val, s71.val]] w58 fun e72 w73 => ∃ b74 : Bool, e72 = .returned (.bool b74) ∧
 brB (!b74)
 (K (.bool false) w73)
 (I1 (wr (n50 + (1 : Int))) w73 ∧ μ1 (wr (n50 + (1 : Int))) w73 < μ1 n50 w49))
 (∃ s75 : Sl, w49.cell? ⟨b10, 5, none⟩ = some (s75.val) ∧
 ∃ (I2 : Int → World → Prop) (μ2 : Int → World → Nat), I2 (0 : Int) w49 ∧ ∀ (n77 : Int) (w76 : World), I2 n77 w76 →
 brB (decide (n77 < (s75.len : Int)))
 (∃ a78 : Addr, s75.ptr = some a78 ∧ 0 ≤ n77 ∧ n77 < (s75.len : Int) ∧
 ∃ n79 n80 : Int, ∃ n81 n82 n83 : Int, w76.cell? (Addr.add a78 (Int.toNat n77 * 5)) = some (.int .i64 n79) ∧ w76.cell? (Addr.add (Addr.add a78 (Int.toNat n77 * 5)) 1) = some (.int .i64 n80) ∧ w76.cell? (Addr.add (Addr.add a78 (Int.toNat n77 * 5)) 2) = some (.int .i64 n81) ∧ w76.cell? (Addr.add (Addr.add a78 (Int.toNat n77 * 5)) 3) = some (.int .i64 n82) ∧ w76.cell? (Addr.add (Addr.add a78 (Int.toNat n77 * 5)) 4) = some (.int .i64 n83) ∧
 ∀ (b84 : Nat) (w85 : World), b84 = w76.heap.size → w85 = World.alloc w76 (.cells #[.int .i64 (0 : Int), .int .i64 (0 : Int), .int .i64 (0 : Int), .int .i64 (0 : Int), .int .i64 (0 : Int)] T_api_Ins) →
 wrOk w85 ⟨b84, 0, none⟩ 5 ∧ ∀ w86 : World, w86 = stW w85 ⟨b84, 0, none⟩ 0 [.int .i64 n79, .int .i64 n80, .int .i64 n81, .int .i64 n82, .int .i64 n83] →
 ∃ J20 : Bool → World → Prop, (∀ (b127 : Bool) (w126 : World), J20 b127 w126 →
 brB b127
 (K (.bool false) w126)
 (∃ n128 n129 : Int, ∃ n130 n131 n132 : Int, w126.cell? ⟨b84, 0, none⟩ = some (.int .i64 n128) ∧ w126.cell? ⟨b84, 1, none⟩ = some (.int .i64 n129) ∧ w126.cell? ⟨b84, 2, none⟩ = some (.int .i64 n130) ∧ w126.cell? ⟨b84, 3, none⟩ = some (.int .i64 n131) ∧ w126.cell? ⟨b84, 4, none⟩ = some (.int .i64 n132) ∧
 Calls Tryz.prog fn_ir_Outs #[.agg #[.int .i64 n128, .int .i64 n129, .int .i64 n130, .int .i64 n131, .int .i64 n132]] w126 fun e133 w134 => ∃ s135 : Sl, e133 = .returned (s135.val) ∧
 ∃ (I3 : Int → World → Prop) (μ3 : Int → World → Nat), I3 (0 : Int) w134 ∧ ∀ (n137 : Int) (w136 : World), I3 n137 w136 →
 brB (decide (n137 < (s135.len : Int)))
 (∃ a138 : Addr, s135.ptr = some a138 ∧ 0 ≤ n137 ∧ n137 < (s135.len : Int) ∧
 ∃ n139 : Int, w136.cell? (Addr.add a138 (Int.toNat n137 * 1)) = some (.int .i64 n139) ∧
 ∃ n140 n141 : Int, ∃ n142 n143 n144 : Int, ∃ s145 s146 : Sl, ∃ n147 : Int, ∃ s148 : Sl, w136.cell? ⟨b10, 0, none⟩ = some (.int .i64 n140) ∧ w136.cell? ⟨b10, 1, none⟩ = some (.int .i64 n141) ∧ w136.cell? ⟨b10, 2, none⟩ = some (.int .i64 n142) ∧ w136.cell? ⟨b10, 3, none⟩ = some (.int .i64 n143) ∧ w136.cell? ⟨b10, 4, none⟩ = some (.int .i64 n144) ∧ w136.cell? ⟨b10, 5, none⟩ = some (s145.val) ∧ w136.cell? ⟨b10, 6, none⟩ = some (s146.val) ∧ w136.cell? ⟨b10, 7, none⟩ = some (.int .i64 n147) ∧ w136.cell? ⟨b10, 8, none⟩ = some (s148.val) ∧
 Calls Tryz.prog fn_ir_named #[.agg #[.int .i64 n140, .int .i64 n141, .int .i64 n142, .int .i64 n143, .int .i64 n144, s145.val, s146.val, .int .i64 n147, s148.val], .int .i64 n139, .int .i64 n77] w136 fun e149 w150 => ∃ b151 : Bool, e149 = .returned (.bool b151) ∧
 brB (!b151)
 (K (.bool false) w150)
 (I3 (wr (n137 + (1 : Int))) w150 ∧ μ3 (wr (n137 + (1 : Int))) w150 < μ3 n137 w136))
 (I2 (wr (n77 + (1 : Int))) w136 ∧ μ2 (wr (n77 + (1 : Int))) w136 < μ2 n77 w76))) ∧
 ∀ w87 : World, w87 = World.drew w86 →
 ∃ S88 : World → Prop, S88 w87 ∧
 ∃ n89 n90 : Int, ∃ n91 n92 n93 : Int, ∃ s94 s95 : Sl, ∃ n96 : Int, ∃ s97 : Sl, held S88 ⟨b10, 0, none⟩ (.int .i64 n89) ∧ held S88 ⟨b10, 1, none⟩ (.int .i64 n90) ∧ held S88 ⟨b10, 2, none⟩ (.int .i64 n91) ∧ held S88 ⟨b10, 3, none⟩ (.int .i64 n92) ∧ held S88 ⟨b10, 4, none⟩ (.int .i64 n93) ∧ held S88 ⟨b10, 5, none⟩ (s94.val) ∧ held S88 ⟨b10, 6, none⟩ (s95.val) ∧ held S88 ⟨b10, 7, none⟩ (.int .i64 n96) ∧ held S88 ⟨b10, 8, none⟩ (s97.val) ∧
 ∃ n98 n99 : Int, ∃ n100 n101 n102 : Int, held S88 ⟨b84, 0, none⟩ (.int .i64 n98) ∧ held S88 ⟨b84, 1, none⟩ (.int .i64 n99) ∧ held S88 ⟨b84, 2, none⟩ (.int .i64 n100) ∧ held S88 ⟨b84, 3, none⟩ (.int .i64 n101) ∧ held S88 ⟨b84, 4, none⟩ (.int .i64 n102) ∧
 Calls Tryz.prog fn_ir_single #[.agg #[.int .i64 n89, .int .i64 n90, .int .i64 n91, .int .i64 n92, .int .i64 n93, s94.val, s95.val, .int .i64 n96, s97.val], .agg #[.int .i64 n98, .int .i64 n99, .int .i64 n100, .int .i64 n101, .int .i64 n102]] w87 fun e103 w104 => ∃ b105 : Bool, e103 = .returned (.bool b105) ∧
 S88 w104 ∧
 brB (!b105)
 (J20 true w104)
 (∃ n106 n107 : Int, ∃ n108 n109 n110 : Int, ∃ s111 s112 : Sl, ∃ n113 : Int, ∃ s114 : Sl, held S88 ⟨b10, 0, none⟩ (.int .i64 n106) ∧ held S88 ⟨b10, 1, none⟩ (.int .i64 n107) ∧ held S88 ⟨b10, 2, none⟩ (.int .i64 n108) ∧ held S88 ⟨b10, 3, none⟩ (.int .i64 n109) ∧ held S88 ⟨b10, 4, none⟩ (.int .i64 n110) ∧ held S88 ⟨b10, 5, none⟩ (s111.val) ∧ held S88 ⟨b10, 6, none⟩ (s112.val) ∧ held S88 ⟨b10, 7, none⟩ (.int .i64 n113) ∧ held S88 ⟨b10, 8, none⟩ (s114.val) ∧
 ∃ n115 n116 : Int, ∃ n117 n118 n119 : Int, held S88 ⟨b84, 0, none⟩ (.int .i64 n115) ∧ held S88 ⟨b84, 1, none⟩ (.int .i64 n116) ∧ held S88 ⟨b84, 2, none⟩ (.int .i64 n117) ∧ held S88 ⟨b84, 3, none⟩ (.int .i64 n118) ∧ held S88 ⟨b84, 4, none⟩ (.int .i64 n119) ∧
 Calls Tryz.prog fn_ir_Uses #[.agg #[.int .i64 n115, .int .i64 n116, .int .i64 n117, .int .i64 n118, .int .i64 n119]] w104 fun e120 w121 => ∃ s122 : Sl, e120 = .returned (s122.val) ∧
 S88 w121 ∧
 Calls Tryz.prog fn_ir_places #[.agg #[.int .i64 n106, .int .i64 n107, .int .i64 n108, .int .i64 n109, .int .i64 n110, s111.val, s112.val, .int .i64 n113, s114.val], s122.val, .int .i64 n77] w121 fun e123 w124 => ∃ b125 : Bool, e123 = .returned (.bool b125) ∧
 J20 (!b125) w124))
 (K (.bool true) w76)))) ∧
 ∃ n12 n13 : Int, ∃ n14 n15 n16 : Int, ∃ s17 s18 : Sl, ∃ n19 : Int, ∃ s20 : Sl, w11.cell? ⟨b10, 0, none⟩ = some (.int .i64 n12) ∧ w11.cell? ⟨b10, 1, none⟩ = some (.int .i64 n13) ∧ w11.cell? ⟨b10, 2, none⟩ = some (.int .i64 n14) ∧ w11.cell? ⟨b10, 3, none⟩ = some (.int .i64 n15) ∧ w11.cell? ⟨b10, 4, none⟩ = some (.int .i64 n16) ∧ w11.cell? ⟨b10, 5, none⟩ = some (s17.val) ∧ w11.cell? ⟨b10, 6, none⟩ = some (s18.val) ∧ w11.cell? ⟨b10, 7, none⟩ = some (.int .i64 n19) ∧ w11.cell? ⟨b10, 8, none⟩ = some (s20.val) ∧
 Calls Tryz.prog fn_ir_head #[.agg #[.int .i64 n12, .int .i64 n13, .int .i64 n14, .int .i64 n15, .int .i64 n16, s17.val, s18.val, .int .i64 n19, s20.val]] w11 fun e21 w22 => ∃ b23 : Bool, e21 = .returned (.bool b23) ∧
 brB (!b23)
 (J3 true w22)
 (∃ s24 : Sl, w22.cell? ⟨b10, 8, none⟩ = some (s24.val) ∧
 Calls Tryz.prog fn_ir_cells #[s24.val] w22 fun e25 w26 => ∃ b27 : Bool, e25 = .returned (.bool b27) ∧
 brB (!b27)
 (J3 true w26)
 (∃ n28 n29 : Int, ∃ n30 n31 n32 : Int, ∃ s33 s34 : Sl, ∃ n35 : Int, ∃ s36 : Sl, w26.cell? ⟨b10, 0, none⟩ = some (.int .i64 n28) ∧ w26.cell? ⟨b10, 1, none⟩ = some (.int .i64 n29) ∧ w26.cell? ⟨b10, 2, none⟩ = some (.int .i64 n30) ∧ w26.cell? ⟨b10, 3, none⟩ = some (.int .i64 n31) ∧ w26.cell? ⟨b10, 4, none⟩ = some (.int .i64 n32) ∧ w26.cell? ⟨b10, 5, none⟩ = some (s33.val) ∧ w26.cell? ⟨b10, 6, none⟩ = some (s34.val) ∧ w26.cell? ⟨b10, 7, none⟩ = some (.int .i64 n35) ∧ w26.cell? ⟨b10, 8, none⟩ = some (s36.val) ∧
 ∃ n37 : Int, w26.cell? ⟨b10, 7, none⟩ = some (.int .i64 n37) ∧
 ∃ s38 : Sl, w26.cell? ⟨b10, 5, none⟩ = some (s38.val) ∧
 Calls Tryz.prog fn_ir_named #[.agg #[.int .i64 n28, .int .i64 n29, .int .i64 n30, .int .i64 n31, .int .i64 n32, s33.val, s34.val, .int .i64 n35, s36.val], .int .i64 n37, .int .i64 (s38.len : Int)] w26 fun e39 w40 => ∃ b41 : Bool, e39 = .returned (.bool b41) ∧
 brB (!b41)
 (J3 true w40)
 (∃ s42 : Sl, w40.cell? ⟨b10, 6, none⟩ = some (s42.val) ∧
 ∃ n43 : Int, w40.cell? ⟨b10, 7, none⟩ = some (.int .i64 n43) ∧
 ∃ a44 : Addr, s42.ptr = some a44 ∧ 0 ≤ n43 ∧ n43 < (s42.len : Int) ∧
 ∃ n45 : Int, w40.cell? (Addr.add (Addr.add a44 (Int.toNat n43 * 4)) 1) = some (.int .i64 n45) ∧
 J3 (decide (n45 < (1 : Int))) w40)))
def ir_Right_an : An := ⟨[(4, [(41, .int .i64)]), (10, [(53, .int .i64)]), (15, [(73, .int .i64)])], [(12, (9, .st 0 (.st 1 (.ef 2 (.st 3 (.st 4 (.st 5 (.st 6 (.st 8 (.ef 7 .done)))))))), 1))], [(2, [(37, .bool)]), (13, [(69, .bool)])]⟩
theorem ir_Right_lift {t1 : Int} {t2 : Int} {t3 : Int} {t4 : Int} {t5 : Int} {t6 : Sl} {t7 : Sl} {t8 : Int} {t9 : Sl} {w : World} {K : Value → World → Prop} (h : ir_Right_sh t1 t2 t3 t4 t5 t6 t7 t8 t9 w K) : Calls Tryz.prog fn_ir_Right #[.agg #[.int .i64 t1, .int .i64 t2, .int .i64 t3, .int .i64 t4, .int .i64 t5, t6.val, t7.val, .int .i64 t8, t9.val]] w fun e w' => ∃ v, e = .returned v ∧ K v w' :=
   lift_calls (A := ir_Right_an) (c := bodyOf Tryz.f81) (args := [.agg #[.int .i64 t1, .int .i64 t2, .int .i64 t3, .int .i64 t4, .int .i64 t5, t6.val, t7.val, .int .i64 t8, t9.val]]) orc orc_wide Tryz.func81 (by kernel_rfl) (by kernel_rfl) (Eq.mp (by kernel_rfl : ir_Right_sh t1 t2 t3 t4 t5 t6 t7 t8 t9 w K = wpc orc Tryz.f81.ntmps ir_Right_an (bodyOf Tryz.f81) (argl 0 [.agg #[.int .i64 t1, .int .i64 t2, .int .i64 t3, .int .i64 t4, .int .i64 t5, t6.val, t7.val, .int .i64 t8, t9.val]]) w (retQ orc Tryz.f81.results.toList K)) h)

def ir_head_sh (t1 : Int) (t2 : Int) (t3 : Int) (t4 : Int) (t5 : Int) (t6 : Sl) (t7 : Sl) (t8 : Int) (t9 : Sl) (w : World) (K : Value → World → Prop) : Prop :=
 ∀ (b10 : Nat) (w11 : World), b10 = w.heap.size → w11 = World.alloc w (.cells #[.int .i64 t1, .int .i64 t2, .int .i64 t3, .int .i64 t4, .int .i64 t5, t6.val, t7.val, .int .i64 t8, t9.val] T_api_Trace) →
 ∃ J2 : Bool → World → Prop, (∀ (numbers29 : Bool) (w28 : World), J2 numbers29 w28 →
 brB numbers29
 (∃ s30 : Sl, w28.cell? ⟨b10, 5, none⟩ = some (s30.val) ∧
 brB (decide ((s30.len : Int) ≤ (1000 : Int)))
 (∃ s31 : Sl, w28.cell? ⟨b10, 6, none⟩ = some (s31.val) ∧
 brB (decide ((s31.len : Int) ≤ (300 : Int)))
 (∃ n32 : Int, w28.cell? ⟨b10, 0, none⟩ = some (.int .i64 n32) ∧
 Calls Tryz.prog fn_ir_between #[.int .i64 n32, .int .i64 (0 : Int), .int .i64 (2999 : Int)] w28 fun e33 w34 => ∃ b35 : Bool, e33 = .returned (.bool b35) ∧
 K (.bool b35) w34)
 (K (.bool false) w28))
 (K (.bool false) w28))
 (K (.bool false) w28)) ∧
 ∃ n12 : Int, w11.cell? ⟨b10, 1, none⟩ = some (.int .i64 n12) ∧
 Calls Tryz.prog fn_ir_between #[.int .i64 n12, .int .i64 (0 : Int), .int .i64 (48 : Int)] w11 fun e13 w14 => ∃ b15 : Bool, e13 = .returned (.bool b15) ∧
 brB b15
 (∃ n16 : Int, w14.cell? ⟨b10, 3, none⟩ = some (.int .i64 n16) ∧
 Calls Tryz.prog fn_ir_between #[.int .i64 n16, .int .i64 (0 : Int), .int .i64 (48 : Int)] w14 fun e17 w18 => ∃ b19 : Bool, e17 = .returned (.bool b19) ∧
 brB b19
 (∃ n20 : Int, w18.cell? ⟨b10, 2, none⟩ = some (.int .i64 n20) ∧
 Calls Tryz.prog fn_ir_between #[.int .i64 n20, .int .i64 (0 : Int), .int .i64 (48 : Int)] w18 fun e21 w22 => ∃ b23 : Bool, e21 = .returned (.bool b23) ∧
 brB b23
 (∃ n24 : Int, w22.cell? ⟨b10, 4, none⟩ = some (.int .i64 n24) ∧
 Calls Tryz.prog fn_ir_between #[.int .i64 n24, .int .i64 (0 : Int), .int .i64 (48 : Int)] w22 fun e25 w26 => ∃ b27 : Bool, e25 = .returned (.bool b27) ∧
 J2 b27 w26)
 (J2 false w22))
 (J2 false w18))
 (J2 false w14)
def ir_head_an : An := ⟨[], [], [(2, [(3, .bool)])]⟩
theorem ir_head_lift {t1 : Int} {t2 : Int} {t3 : Int} {t4 : Int} {t5 : Int} {t6 : Sl} {t7 : Sl} {t8 : Int} {t9 : Sl} {w : World} {K : Value → World → Prop} (h : ir_head_sh t1 t2 t3 t4 t5 t6 t7 t8 t9 w K) : Calls Tryz.prog fn_ir_head #[.agg #[.int .i64 t1, .int .i64 t2, .int .i64 t3, .int .i64 t4, .int .i64 t5, t6.val, t7.val, .int .i64 t8, t9.val]] w fun e w' => ∃ v, e = .returned v ∧ K v w' :=
   lift_calls (A := ir_head_an) (c := bodyOf Tryz.f114) (args := [.agg #[.int .i64 t1, .int .i64 t2, .int .i64 t3, .int .i64 t4, .int .i64 t5, t6.val, t7.val, .int .i64 t8, t9.val]]) orc orc_wide Tryz.func114 (by kernel_rfl) (by kernel_rfl) (Eq.mp (by kernel_rfl : ir_head_sh t1 t2 t3 t4 t5 t6 t7 t8 t9 w K = wpc orc Tryz.f114.ntmps ir_head_an (bodyOf Tryz.f114) (argl 0 [.agg #[.int .i64 t1, .int .i64 t2, .int .i64 t3, .int .i64 t4, .int .i64 t5, t6.val, t7.val, .int .i64 t8, t9.val]]) w (retQ orc Tryz.f114.results.toList K)) h)

def ir_cells_sh (l_1 : Sl) (w : World) (K : Value → World → Prop) : Prop :=
 ∃ (I1 : Int → Int → World → Prop) (μ1 : Int → Int → World → Nat), I1 (-1 : Int) (0 : Int) w ∧ ∀ (last6 : Int) (n3 : Int) (w2 : World), I1 last6 n3 w2 →
 brB (decide (n3 < (l_1.len : Int)))
 (∃ a4 : Addr, l_1.ptr = some a4 ∧ 0 ≤ n3 ∧ n3 < (l_1.len : Int) ∧
 ∃ n5 : Int, w2.cell? (Addr.add a4 (Int.toNat n3 * 1)) = some (.int .i64 n5) ∧
 ∃ J10 : Bool → World → Prop, (∀ (b8 : Bool) (w7 : World), J10 b8 w7 →
 brB b8
 (K (.bool false) w7)
 (I1 n5 (wr (n3 + (1 : Int))) w7 ∧ μ1 n5 (wr (n3 + (1 : Int))) w7 < μ1 last6 n3 w2)) ∧
 brB (decide (n5 ≤ last6))
 (J10 true w2)
 (J10 (decide (n5 ≥ (3000 : Int))) w2))
 (K (.bool true) w2)
def ir_cells_an : An := ⟨[(3, [(3, .int .i64), (8, .int .i64)])], [], [(6, [(18, .bool)])]⟩
theorem ir_cells_lift {l_1 : Sl} {w : World} {K : Value → World → Prop} (h : ir_cells_sh l_1 w K) : Calls Tryz.prog fn_ir_cells #[l_1.val] w fun e w' => ∃ v, e = .returned v ∧ K v w' :=
   lift_calls (A := ir_cells_an) (c := bodyOf Tryz.f115) (args := [l_1.val]) orc orc_wide Tryz.func115 (by kernel_rfl) (by kernel_rfl) (Eq.mp (by kernel_rfl : ir_cells_sh l_1 w K = wpc orc Tryz.f115.ntmps ir_cells_an (bodyOf Tryz.f115) (argl 0 [l_1.val]) w (retQ orc Tryz.f115.results.toList K)) h)

def ir_named_sh (t1 : Int) (t2 : Int) (t3 : Int) (t4 : Int) (t5 : Int) (t6 : Sl) (t7 : Sl) (t8 : Int) (t9 : Sl) (x_10 : Int) (at_11 : Int) (w : World) (K : Value → World → Prop) : Prop :=
 ∀ (b12 : Nat) (w13 : World), b12 = w.heap.size → w13 = World.alloc w (.cells #[.int .i64 t1, .int .i64 t2, .int .i64 t3, .int .i64 t4, .int .i64 t5, t6.val, t7.val, .int .i64 t8, t9.val] T_api_Trace) →
 ∀ w14 : World, w14 = World.drew w13 →
 ∃ S15 : World → Prop, S15 w14 ∧
 brB (decide (x_10 ≥ (0 : Int)))
 (∃ s16 : Sl, held S15 ⟨b12, 6, none⟩ (s16.val) ∧
 brB (decide (x_10 < (s16.len : Int)))
 (∃ n17 n18 : Int, ∃ n19 n20 n21 : Int, ∃ s22 s23 : Sl, ∃ n24 : Int, ∃ s25 : Sl, held S15 ⟨b12, 0, none⟩ (.int .i64 n17) ∧ held S15 ⟨b12, 1, none⟩ (.int .i64 n18) ∧ held S15 ⟨b12, 2, none⟩ (.int .i64 n19) ∧ held S15 ⟨b12, 3, none⟩ (.int .i64 n20) ∧ held S15 ⟨b12, 4, none⟩ (.int .i64 n21) ∧ held S15 ⟨b12, 5, none⟩ (s22.val) ∧ held S15 ⟨b12, 6, none⟩ (s23.val) ∧ held S15 ⟨b12, 7, none⟩ (.int .i64 n24) ∧ held S15 ⟨b12, 8, none⟩ (s25.val) ∧
 ∃ s26 : Sl, held S15 ⟨b12, 6, none⟩ (s26.val) ∧
 ∃ a27 : Addr, s26.ptr = some a27 ∧ 0 ≤ x_10 ∧ x_10 < (s26.len : Int) ∧
 ∃ s28 : Sl, held S15 (Addr.add (Addr.add a27 (Int.toNat x_10 * 4)) 2) (s28.val) ∧
 Calls Tryz.prog fn_ir_places #[.agg #[.int .i64 n17, .int .i64 n18, .int .i64 n19, .int .i64 n20, .int .i64 n21, s22.val, s23.val, .int .i64 n24, s25.val], s28.val, .int .i64 at_11] w14 fun e29 w30 => ∃ b31 : Bool, e29 = .returned (.bool b31) ∧
 S15 w30 ∧
 brB b31
 (∃ n32 n33 : Int, ∃ n34 n35 n36 : Int, ∃ s37 s38 : Sl, ∃ n39 : Int, ∃ s40 : Sl, held S15 ⟨b12, 0, none⟩ (.int .i64 n32) ∧ held S15 ⟨b12, 1, none⟩ (.int .i64 n33) ∧ held S15 ⟨b12, 2, none⟩ (.int .i64 n34) ∧ held S15 ⟨b12, 3, none⟩ (.int .i64 n35) ∧ held S15 ⟨b12, 4, none⟩ (.int .i64 n36) ∧ held S15 ⟨b12, 5, none⟩ (s37.val) ∧ held S15 ⟨b12, 6, none⟩ (s38.val) ∧ held S15 ⟨b12, 7, none⟩ (.int .i64 n39) ∧ held S15 ⟨b12, 8, none⟩ (s40.val) ∧
 ∃ s41 : Sl, held S15 ⟨b12, 6, none⟩ (s41.val) ∧
 ∃ a42 : Addr, s41.ptr = some a42 ∧ 0 ≤ x_10 ∧ x_10 < (s41.len : Int) ∧
 ∃ s43 : Sl, held S15 (Addr.add (Addr.add a42 (Int.toNat x_10 * 4)) 3) (s43.val) ∧
 Calls Tryz.prog fn_ir_places #[.agg #[.int .i64 n32, .int .i64 n33, .int .i64 n34, .int .i64 n35, .int .i64 n36, s37.val, s38.val, .int .i64 n39, s40.val], s43.val, .int .i64 at_11] w30 fun e44 w45 => ∃ b46 : Bool, e44 = .returned (.bool b46) ∧
 K (.bool b46) w45)
 (K (.bool false) w30))
 (K (.bool false) w14))
 (K (.bool false) w14)
def ir_named_an : An := ⟨[], [(1, (29, .st 0 (.st 1 (.st 2 (.st 3 (.st 4 (.st 5 (.st 6 (.st 7 (.st 8 (.st 9 (.st 10 (.st 11 (.st 12 (.st 13 (.st 14 (.st 15 (.st 16 (.st 17 (.ef 18 (.st 19 (.st 20 (.st 21 (.st 22 (.st 23 (.st 24 (.st 25 (.st 26 (.st 27 (.st 28 .done)))))))))))))))))))))))))))), 1))], []⟩
theorem ir_named_lift {t1 : Int} {t2 : Int} {t3 : Int} {t4 : Int} {t5 : Int} {t6 : Sl} {t7 : Sl} {t8 : Int} {t9 : Sl} {x_10 : Int} {at_11 : Int} {w : World} {K : Value → World → Prop} (h : ir_named_sh t1 t2 t3 t4 t5 t6 t7 t8 t9 x_10 at_11 w K) : Calls Tryz.prog fn_ir_named #[.agg #[.int .i64 t1, .int .i64 t2, .int .i64 t3, .int .i64 t4, .int .i64 t5, t6.val, t7.val, .int .i64 t8, t9.val], .int .i64 x_10, .int .i64 at_11] w fun e w' => ∃ v, e = .returned v ∧ K v w' :=
   lift_calls (A := ir_named_an) (c := bodyOf Tryz.f116) (args := [.agg #[.int .i64 t1, .int .i64 t2, .int .i64 t3, .int .i64 t4, .int .i64 t5, t6.val, t7.val, .int .i64 t8, t9.val], .int .i64 x_10, .int .i64 at_11]) orc orc_wide Tryz.func116 (by kernel_rfl) (by kernel_rfl) (Eq.mp (by kernel_rfl : ir_named_sh t1 t2 t3 t4 t5 t6 t7 t8 t9 x_10 at_11 w K = wpc orc Tryz.f116.ntmps ir_named_an (bodyOf Tryz.f116) (argl 0 [.agg #[.int .i64 t1, .int .i64 t2, .int .i64 t3, .int .i64 t4, .int .i64 t5, t6.val, t7.val, .int .i64 t8, t9.val], .int .i64 x_10, .int .i64 at_11]) w (retQ orc Tryz.f116.results.toList K)) h)

def ir_out_sh (t1 : Int) (t2 : Int) (t3 : Int) (t4 : Int) (t5 : Int) (t6 : Sl) (t7 : Sl) (t8 : Int) (t9 : Sl) (x10 : Int) (x11 : Int) (x12 : Sl) (x13 : Sl) (w : World) (K : Value → World → Prop) : Prop :=
 ∀ (b14 : Nat) (w15 : World), b14 = w.heap.size → w15 = World.alloc w (.cells #[.int .i64 t1, .int .i64 t2, .int .i64 t3, .int .i64 t4, .int .i64 t5, t6.val, t7.val, .int .i64 t8, t9.val] T_api_Trace) →
 ∀ (b16 : Nat) (w17 : World), b16 = w15.heap.size → w17 = World.alloc w15 (.cells #[.int .i64 x10, .int .i64 x11, x12.val, x13.val] T_api_Out) →
 ∃ n18 : Int, w17.cell? ⟨b16, 1, none⟩ = some (.int .i64 n18) ∧
 Calls Tryz.prog fn_ir_between #[.int .i64 n18, .int .i64 (0 : Int), .int .i64 (120 : Int)] w17 fun e19 w20 => ∃ b21 : Bool, e19 = .returned (.bool b21) ∧
 brB b21
 (∃ n22 : Int, w20.cell? ⟨b16, 0, none⟩ = some (.int .i64 n22) ∧
 Calls Tryz.prog fn_ir_between #[.int .i64 n22, .int .i64 (0 : Int), .int .i64 (2999 : Int)] w20 fun e23 w24 => ∃ b25 : Bool, e23 = .returned (.bool b25) ∧
 brB b25
 (∃ s26 : Sl, w24.cell? ⟨b16, 2, none⟩ = some (s26.val) ∧
 ∃ n27 : Int, w24.cell? ⟨b14, 1, none⟩ = some (.int .i64 n27) ∧
 ∃ n28 : Int, w24.cell? ⟨b14, 3, none⟩ = some (.int .i64 n28) ∧
 brB (decide ((s26.len : Int) ≤ (wr (n27 + n28))))
 (∃ s29 : Sl, w24.cell? ⟨b16, 3, none⟩ = some (s29.val) ∧
 ∃ n30 : Int, w24.cell? ⟨b14, 2, none⟩ = some (.int .i64 n30) ∧
 ∃ n31 : Int, w24.cell? ⟨b14, 4, none⟩ = some (.int .i64 n31) ∧
 K (.bool (decide ((s29.len : Int) ≤ (wr (n30 + n31))))) w24)
 (K (.bool false) w24))
 (K (.bool false) w24))
 (K (.bool false) w20)
def ir_out_an : An := ⟨[], [], []⟩
theorem ir_out_lift {t1 : Int} {t2 : Int} {t3 : Int} {t4 : Int} {t5 : Int} {t6 : Sl} {t7 : Sl} {t8 : Int} {t9 : Sl} {x10 : Int} {x11 : Int} {x12 : Sl} {x13 : Sl} {w : World} {K : Value → World → Prop} (h : ir_out_sh t1 t2 t3 t4 t5 t6 t7 t8 t9 x10 x11 x12 x13 w K) : Calls Tryz.prog fn_ir_out #[.agg #[.int .i64 t1, .int .i64 t2, .int .i64 t3, .int .i64 t4, .int .i64 t5, t6.val, t7.val, .int .i64 t8, t9.val], .agg #[.int .i64 x10, .int .i64 x11, x12.val, x13.val]] w fun e w' => ∃ v, e = .returned v ∧ K v w' :=
   lift_calls (A := ir_out_an) (c := bodyOf Tryz.f117) (args := [.agg #[.int .i64 t1, .int .i64 t2, .int .i64 t3, .int .i64 t4, .int .i64 t5, t6.val, t7.val, .int .i64 t8, t9.val], .agg #[.int .i64 x10, .int .i64 x11, x12.val, x13.val]]) orc orc_wide Tryz.func117 (by kernel_rfl) (by kernel_rfl) (Eq.mp (by kernel_rfl : ir_out_sh t1 t2 t3 t4 t5 t6 t7 t8 t9 x10 x11 x12 x13 w K = wpc orc Tryz.f117.ntmps ir_out_an (bodyOf Tryz.f117) (argl 0 [.agg #[.int .i64 t1, .int .i64 t2, .int .i64 t3, .int .i64 t4, .int .i64 t5, t6.val, t7.val, .int .i64 t8, t9.val], .agg #[.int .i64 x10, .int .i64 x11, x12.val, x13.val]]) w (retQ orc Tryz.f117.results.toList K)) h)

def ir_single_sh (t1 : Int) (t2 : Int) (t3 : Int) (t4 : Int) (t5 : Int) (t6 : Sl) (t7 : Sl) (t8 : Int) (t9 : Sl) (i10 : Int) (i11 : Int) (i12 : Int) (i13 : Int) (i14 : Int) (w : World) (K : Value → World → Prop) : Prop :=
 ∀ (b15 : Nat) (w16 : World), b15 = w.heap.size → w16 = World.alloc w (.cells #[.int .i64 t1, .int .i64 t2, .int .i64 t3, .int .i64 t4, .int .i64 t5, t6.val, t7.val, .int .i64 t8, t9.val] T_api_Trace) →
 ∀ (b17 : Nat) (w18 : World), b17 = w16.heap.size → w18 = World.alloc w16 (.cells #[.int .i64 i10, .int .i64 i11, .int .i64 i12, .int .i64 i13, .int .i64 i14] T_api_Ins) →
 ∃ n19 : Int, w18.cell? ⟨b17, 0, none⟩ = some (.int .i64 n19) ∧
 brB (n19 == (4 : Int))
 (∃ n20 : Int, w18.cell? ⟨b17, 1, none⟩ = some (.int .i64 n20) ∧
 Calls Tryz.prog fn_ir_two #[.int .i64 n20] w18 fun e21 w22 => ∃ b23 : Bool, e21 = .returned (.bool b23) ∧
 brB b23
 (K (.bool true) w22)
 (∃ n24 : Int, w22.cell? ⟨b17, 1, none⟩ = some (.int .i64 n24) ∧
 Calls Tryz.prog fn_ir_one #[.int .i64 n24] w22 fun e25 w26 => ∃ b27 : Bool, e25 = .returned (.bool b27) ∧
 K (.bool b27) w26))
 (brB (n19 == (2 : Int))
 (∃ n30 : Int, w18.cell? ⟨b17, 1, none⟩ = some (.int .i64 n30) ∧
 ∃ n31 : Int, w18.cell? ⟨b15, 1, none⟩ = some (.int .i64 n31) ∧
 Calls Tryz.prog fn_ir_between #[.int .i64 n30, .int .i64 (0 : Int), .int .i64 (wr (n31 - (1 : Int)))] w18 fun e32 w33 => ∃ b34 : Bool, e32 = .returned (.bool b34) ∧
 K (.bool b34) w33)
 (brB (n19 == (3 : Int))
 (∃ n35 : Int, w18.cell? ⟨b17, 1, none⟩ = some (.int .i64 n35) ∧
 ∃ n36 : Int, w18.cell? ⟨b15, 2, none⟩ = some (.int .i64 n36) ∧
 Calls Tryz.prog fn_ir_between #[.int .i64 n35, .int .i64 (0 : Int), .int .i64 (wr (n36 - (1 : Int)))] w18 fun e37 w38 => ∃ b39 : Bool, e37 = .returned (.bool b39) ∧
 K (.bool b39) w38)
 (∃ n40 : Int, w18.cell? ⟨b17, 0, none⟩ = some (.int .i64 n40) ∧
 Calls Tryz.prog fn_ir_between #[.int .i64 n40, .int .i64 (1 : Int), .int .i64 (12 : Int)] w18 fun e41 w42 => ∃ b43 : Bool, e41 = .returned (.bool b43) ∧
 K (.bool b43) w42)))
def ir_single_an : An := ⟨[], [], []⟩
theorem ir_single_lift {t1 : Int} {t2 : Int} {t3 : Int} {t4 : Int} {t5 : Int} {t6 : Sl} {t7 : Sl} {t8 : Int} {t9 : Sl} {i10 : Int} {i11 : Int} {i12 : Int} {i13 : Int} {i14 : Int} {w : World} {K : Value → World → Prop} (h : ir_single_sh t1 t2 t3 t4 t5 t6 t7 t8 t9 i10 i11 i12 i13 i14 w K) : Calls Tryz.prog fn_ir_single #[.agg #[.int .i64 t1, .int .i64 t2, .int .i64 t3, .int .i64 t4, .int .i64 t5, t6.val, t7.val, .int .i64 t8, t9.val], .agg #[.int .i64 i10, .int .i64 i11, .int .i64 i12, .int .i64 i13, .int .i64 i14]] w fun e w' => ∃ v, e = .returned v ∧ K v w' :=
   lift_calls (A := ir_single_an) (c := bodyOf Tryz.f118) (args := [.agg #[.int .i64 t1, .int .i64 t2, .int .i64 t3, .int .i64 t4, .int .i64 t5, t6.val, t7.val, .int .i64 t8, t9.val], .agg #[.int .i64 i10, .int .i64 i11, .int .i64 i12, .int .i64 i13, .int .i64 i14]]) orc orc_wide Tryz.func118 (by kernel_rfl) (by kernel_rfl) (Eq.mp (by kernel_rfl : ir_single_sh t1 t2 t3 t4 t5 t6 t7 t8 t9 i10 i11 i12 i13 i14 w K = wpc orc Tryz.f118.ntmps ir_single_an (bodyOf Tryz.f118) (argl 0 [.agg #[.int .i64 t1, .int .i64 t2, .int .i64 t3, .int .i64 t4, .int .i64 t5, t6.val, t7.val, .int .i64 t8, t9.val], .agg #[.int .i64 i10, .int .i64 i11, .int .i64 i12, .int .i64 i13, .int .i64 i14]]) w (retQ orc Tryz.f118.results.toList K)) h)

def ir_places_sh (t1 : Int) (t2 : Int) (t3 : Int) (t4 : Int) (t5 : Int) (t6 : Sl) (t7 : Sl) (t8 : Int) (t9 : Sl) (l_10 : Sl) (at_11 : Int) (w : World) (K : Value → World → Prop) : Prop :=
 ∀ (b12 : Nat) (w13 : World), b12 = w.heap.size → w13 = World.alloc w (.cells #[.int .i64 t1, .int .i64 t2, .int .i64 t3, .int .i64 t4, .int .i64 t5, t6.val, t7.val, .int .i64 t8, t9.val] T_api_Trace) →
 ∃ (I1 : Int → World → Prop) (μ1 : Int → World → Nat), I1 (0 : Int) w13 ∧ ∀ (n15 : Int) (w14 : World), I1 n15 w14 →
 brB (decide (n15 < (l_10.len : Int)))
 (∃ a16 : Addr, l_10.ptr = some a16 ∧ 0 ≤ n15 ∧ n15 < (l_10.len : Int) ∧
 ∃ n17 : Int, w14.cell? (Addr.add a16 (Int.toNat n15 * 1)) = some (.int .i64 n17) ∧
 ∃ J8 : Bool → World → Prop, (∀ (b25 : Bool) (w24 : World), J8 b25 w24 →
 brB b25
 (K (.bool false) w24)
 (I1 (wr (n15 + (1 : Int))) w24 ∧ μ1 (wr (n15 + (1 : Int))) w24 < μ1 n15 w14)) ∧
 brB (decide (n17 < (0 : Int)))
 (J8 true w14)
 (brB (decide (n17 ≥ at_11))
 (J8 true w14)
 (∃ s18 : Sl, w14.cell? ⟨b12, 5, none⟩ = some (s18.val) ∧
 ∃ a19 : Addr, s18.ptr = some a19 ∧ 0 ≤ n17 ∧ n17 < (s18.len : Int) ∧
 ∃ n20 : Int, w14.cell? (Addr.add a19 (Int.toNat n17 * 5)) = some (.int .i64 n20) ∧
 Calls Tryz.prog fn_ir_Gives #[.int .i64 n20] w14 fun e21 w22 => ∃ b23 : Bool, e21 = .returned (.bool b23) ∧
 J8 (!b23) w22)))
 (K (.bool true) w14)
def ir_places_an : An := ⟨[(2, [(11, .int .i64)])], [], [(5, [(31, .bool)])]⟩
theorem ir_places_lift {t1 : Int} {t2 : Int} {t3 : Int} {t4 : Int} {t5 : Int} {t6 : Sl} {t7 : Sl} {t8 : Int} {t9 : Sl} {l_10 : Sl} {at_11 : Int} {w : World} {K : Value → World → Prop} (h : ir_places_sh t1 t2 t3 t4 t5 t6 t7 t8 t9 l_10 at_11 w K) : Calls Tryz.prog fn_ir_places #[.agg #[.int .i64 t1, .int .i64 t2, .int .i64 t3, .int .i64 t4, .int .i64 t5, t6.val, t7.val, .int .i64 t8, t9.val], l_10.val, .int .i64 at_11] w fun e w' => ∃ v, e = .returned v ∧ K v w' :=
   lift_calls (A := ir_places_an) (c := bodyOf Tryz.f119) (args := [.agg #[.int .i64 t1, .int .i64 t2, .int .i64 t3, .int .i64 t4, .int .i64 t5, t6.val, t7.val, .int .i64 t8, t9.val], l_10.val, .int .i64 at_11]) orc orc_wide Tryz.func119 (by kernel_rfl) (by kernel_rfl) (Eq.mp (by kernel_rfl : ir_places_sh t1 t2 t3 t4 t5 t6 t7 t8 t9 l_10 at_11 w K = wpc orc Tryz.f119.ntmps ir_places_an (bodyOf Tryz.f119) (argl 0 [.agg #[.int .i64 t1, .int .i64 t2, .int .i64 t3, .int .i64 t4, .int .i64 t5, t6.val, t7.val, .int .i64 t8, t9.val], l_10.val, .int .i64 at_11]) w (retQ orc Tryz.f119.results.toList K)) h)

def ir_Uses_j1 (J4 : World → Prop) (n8 : Int) (b16 : Bool) (w15 : World) (K : Value → World → Prop) : Prop :=
 brB b16
 (J4  w15)
 (brB (n8 == (10 : Int))
 ((brB (n8 == (10 : Int))
 (J4  w15)
 (K (.slice none 0 0) w15)))
 ((brB (n8 == (11 : Int))
 (J4  w15)
 (K (.slice none 0 0) w15))))
def ir_Uses_sh (i1 : Int) (i2 : Int) (i3 : Int) (i4 : Int) (i5 : Int) (w : World) (K : Value → World → Prop) : Prop :=
 ∀ (b6 : Nat) (w7 : World), b6 = w.heap.size → w7 = World.alloc w (.cells #[.int .i64 i1, .int .i64 i2, .int .i64 i3, .int .i64 i4, .int .i64 i5] T_api_Ins) →
 ∃ n8 : Int, w7.cell? ⟨b6, 0, none⟩ = some (.int .i64 n8) ∧
 ∃ J4 : World → Prop, (∀ (w33 : World), J4  w33 →
 ∃ n34 : Int, w33.cell? ⟨b6, 2, none⟩ = some (.int .i64 n34) ∧
 ∀ (b35 : Nat) (w36 : World), b35 = w33.heap.size → w36 = World.alloc w33 (.cells #[.int .i64 n34] T_int) →
 K (.slice (some ⟨b35, 0, none⟩) 1 1) w36) ∧
 ∃ J5 : World → Prop, (∀ (w28 : World), J5  w28 →
 ∃ n29 : Int, w28.cell? ⟨b6, 2, none⟩ = some (.int .i64 n29) ∧
 ∃ n30 : Int, w28.cell? ⟨b6, 3, none⟩ = some (.int .i64 n30) ∧
 ∀ (b31 : Nat) (w32 : World), b31 = w28.heap.size → w32 = World.alloc w28 (.cells #[.int .i64 n29, .int .i64 n30] T_int) →
 K (.slice (some ⟨b31, 0, none⟩) 2 2) w32) ∧
 brB (n8 == (4 : Int))
 (∃ n21 : Int, w7.cell? ⟨b6, 1, none⟩ = some (.int .i64 n21) ∧
 Calls Tryz.prog fn_ir_two #[.int .i64 n21] w7 fun e22 w23 => ∃ b24 : Bool, e22 = .returned (.bool b24) ∧
 brB (!b24)
 (∃ n25 : Int, w23.cell? ⟨b6, 2, none⟩ = some (.int .i64 n25) ∧
 ∀ (b26 : Nat) (w27 : World), b26 = w23.heap.size → w27 = World.alloc w23 (.cells #[.int .i64 n25] T_int) →
 K (.slice (some ⟨b26, 0, none⟩) 1 1) w27)
 (J5  w23))
 (brB (n8 == (6 : Int))
 ((brB (n8 == (6 : Int))
 (J5  w7)
 (brB (n8 == (5 : Int))
 (ir_Uses_j1 J4 n8 (n8 == (5 : Int)) w7 K)
 (brB (n8 == (7 : Int))
 (ir_Uses_j1 J4 n8 (n8 == (7 : Int)) w7 K)
 (ir_Uses_j1 J4 n8 (n8 == (8 : Int)) w7 K)))))
 ((brB (n8 == (9 : Int))
 (J5  w7)
 (brB (n8 == (5 : Int))
 (ir_Uses_j1 J4 n8 (n8 == (5 : Int)) w7 K)
 (brB (n8 == (7 : Int))
 (ir_Uses_j1 J4 n8 (n8 == (7 : Int)) w7 K)
 (ir_Uses_j1 J4 n8 (n8 == (8 : Int)) w7 K))))))
def ir_Uses_an : An := ⟨[], [], [(12, []), (13, [])]⟩
theorem ir_Uses_lift {i1 : Int} {i2 : Int} {i3 : Int} {i4 : Int} {i5 : Int} {w : World} {K : Value → World → Prop} (h : ir_Uses_sh i1 i2 i3 i4 i5 w K) : Calls Tryz.prog fn_ir_Uses #[.agg #[.int .i64 i1, .int .i64 i2, .int .i64 i3, .int .i64 i4, .int .i64 i5]] w fun e w' => ∃ v, e = .returned v ∧ K v w' :=
   lift_calls (A := ir_Uses_an) (c := bodyOf Tryz.f120) (args := [.agg #[.int .i64 i1, .int .i64 i2, .int .i64 i3, .int .i64 i4, .int .i64 i5]]) orc orc_wide Tryz.func120 (by kernel_rfl) (by kernel_rfl) (Eq.mp (by kernel_rfl : ir_Uses_sh i1 i2 i3 i4 i5 w K = wpc orc Tryz.f120.ntmps ir_Uses_an (bodyOf Tryz.f120) (argl 0 [.agg #[.int .i64 i1, .int .i64 i2, .int .i64 i3, .int .i64 i4, .int .i64 i5]]) w (retQ orc Tryz.f120.results.toList K)) h)

def ir_Outs_j1 (J5 : World → Prop) (n8 : Int) (b6 : Nat) (b16 : Bool) (w15 : World) (K : Value → World → Prop) : Prop :=
 brB b16
 (J5  w15)
 (brB (n8 == (6 : Int))
 (∃ n25 : Int, w15.cell? ⟨b6, 4, none⟩ = some (.int .i64 n25) ∧
 ∃ n26 : Int, w15.cell? ⟨b6, 1, none⟩ = some (.int .i64 n26) ∧
 ∀ (b27 : Nat) (w28 : World), b27 = w15.heap.size → w28 = World.alloc w15 (.cells #[.int .i64 n25, .int .i64 n26] T_int) →
 K (.slice (some ⟨b27, 0, none⟩) 2 2) w28)
 (K (.slice none 0 0) w15))
def ir_Outs_sh (i1 : Int) (i2 : Int) (i3 : Int) (i4 : Int) (i5 : Int) (w : World) (K : Value → World → Prop) : Prop :=
 ∀ (b6 : Nat) (w7 : World), b6 = w.heap.size → w7 = World.alloc w (.cells #[.int .i64 i1, .int .i64 i2, .int .i64 i3, .int .i64 i4, .int .i64 i5] T_api_Ins) →
 ∃ n8 : Int, w7.cell? ⟨b6, 0, none⟩ = some (.int .i64 n8) ∧
 ∃ J5 : World → Prop, (∀ (w21 : World), J5  w21 →
 ∃ n22 : Int, w21.cell? ⟨b6, 4, none⟩ = some (.int .i64 n22) ∧
 ∀ (b23 : Nat) (w24 : World), b23 = w21.heap.size → w24 = World.alloc w21 (.cells #[.int .i64 n22] T_int) →
 K (.slice (some ⟨b23, 0, none⟩) 1 1) w24) ∧
 brB (n8 == (4 : Int))
 (∃ J19 : Bool → World → Prop, (∀ (b20 : Bool) (w19 : World), J19 b20 w19 →
 brB b20
 (K (.slice none 0 0) w19)
 (J5  w19)) ∧
 ∃ n17 : Int, w7.cell? ⟨b6, 1, none⟩ = some (.int .i64 n17) ∧
 brB (n17 != (14 : Int))
 (∃ n18 : Int, w7.cell? ⟨b6, 1, none⟩ = some (.int .i64 n18) ∧
 J19 (n18 != (15 : Int)) w7)
 (J19 false w7))
 (brB (n8 == (5 : Int))
 ((brB (n8 == (5 : Int))
 (J5  w7)
 (brB (n8 == (10 : Int))
 (ir_Outs_j1 J5 n8 b6 (n8 == (10 : Int)) w7 K)
 (ir_Outs_j1 J5 n8 b6 (n8 == (11 : Int)) w7 K))))
 (brB (n8 == (7 : Int))
 ((brB (n8 == (7 : Int))
 (J5  w7)
 (brB (n8 == (10 : Int))
 (ir_Outs_j1 J5 n8 b6 (n8 == (10 : Int)) w7 K)
 (ir_Outs_j1 J5 n8 b6 (n8 == (11 : Int)) w7 K))))
 (brB (n8 == (8 : Int))
 ((brB (n8 == (8 : Int))
 (J5  w7)
 (brB (n8 == (10 : Int))
 (ir_Outs_j1 J5 n8 b6 (n8 == (10 : Int)) w7 K)
 (ir_Outs_j1 J5 n8 b6 (n8 == (11 : Int)) w7 K))))
 ((brB (n8 == (9 : Int))
 (J5  w7)
 (brB (n8 == (10 : Int))
 (ir_Outs_j1 J5 n8 b6 (n8 == (10 : Int)) w7 K)
 (ir_Outs_j1 J5 n8 b6 (n8 == (11 : Int)) w7 K)))))))
def ir_Outs_an : An := ⟨[], [], [(11, [(24, .bool)]), (12, [])]⟩
theorem ir_Outs_lift {i1 : Int} {i2 : Int} {i3 : Int} {i4 : Int} {i5 : Int} {w : World} {K : Value → World → Prop} (h : ir_Outs_sh i1 i2 i3 i4 i5 w K) : Calls Tryz.prog fn_ir_Outs #[.agg #[.int .i64 i1, .int .i64 i2, .int .i64 i3, .int .i64 i4, .int .i64 i5]] w fun e w' => ∃ v, e = .returned v ∧ K v w' :=
   lift_calls (A := ir_Outs_an) (c := bodyOf Tryz.f121) (args := [.agg #[.int .i64 i1, .int .i64 i2, .int .i64 i3, .int .i64 i4, .int .i64 i5]]) orc orc_wide Tryz.func121 (by kernel_rfl) (by kernel_rfl) (Eq.mp (by kernel_rfl : ir_Outs_sh i1 i2 i3 i4 i5 w K = wpc orc Tryz.f121.ntmps ir_Outs_an (bodyOf Tryz.f121) (argl 0 [.agg #[.int .i64 i1, .int .i64 i2, .int .i64 i3, .int .i64 i4, .int .i64 i5]]) w (retQ orc Tryz.f121.results.toList K)) h)

def ir_Gives_j1 (op1 : Int) (b5 : Bool) (w4 : World) (K : Value → World → Prop) : Prop :=
 brB b5
 (K (.bool true) w4)
 (brB (op1 == (4 : Int))
 ((brB (op1 == (4 : Int))
 (K (.bool true) w4)
 (brB (op1 == (12 : Int))
 (K (.bool true) w4)
 (K (.bool false) w4))))
 ((brB (op1 == (5 : Int))
 (K (.bool true) w4)
 (brB (op1 == (12 : Int))
 (K (.bool true) w4)
 (K (.bool false) w4)))))
def ir_Gives_sh (op1 : Int) (w : World) (K : Value → World → Prop) : Prop :=
 brB (op1 == (1 : Int))
 (ir_Gives_j1 op1 (op1 == (1 : Int)) w K)
 (brB (op1 == (2 : Int))
 (ir_Gives_j1 op1 (op1 == (2 : Int)) w K)
 (ir_Gives_j1 op1 (op1 == (3 : Int)) w K))
def ir_Gives_an : An := ⟨[], [], []⟩
theorem ir_Gives_lift {op1 : Int} {w : World} {K : Value → World → Prop} (h : ir_Gives_sh op1 w K) : Calls Tryz.prog fn_ir_Gives #[.int .i64 op1] w fun e w' => ∃ v, e = .returned v ∧ K v w' :=
   lift_calls (A := ir_Gives_an) (c := bodyOf Tryz.f128) (args := [.int .i64 op1]) orc orc_wide Tryz.func128 (by kernel_rfl) (by kernel_rfl) (Eq.mp (by kernel_rfl : ir_Gives_sh op1 w K = wpc orc Tryz.f128.ntmps ir_Gives_an (bodyOf Tryz.f128) (argl 0 [.int .i64 op1]) w (retQ orc Tryz.f128.results.toList K)) h)

def ir_between_sh (n_1 : Int) (least2 : Int) (most3 : Int) (w : World) (K : Value → World → Prop) : Prop :=
 brB (decide (n_1 ≥ least2))
 (K (.bool (decide (n_1 ≤ most3))) w)
 (K (.bool false) w)
def ir_between_an : An := ⟨[], [], []⟩
theorem ir_between_lift {n_1 : Int} {least2 : Int} {most3 : Int} {w : World} {K : Value → World → Prop} (h : ir_between_sh n_1 least2 most3 w K) : Calls Tryz.prog fn_ir_between #[.int .i64 n_1, .int .i64 least2, .int .i64 most3] w fun e w' => ∃ v, e = .returned v ∧ K v w' :=
   lift_calls (A := ir_between_an) (c := bodyOf Tryz.f140) (args := [.int .i64 n_1, .int .i64 least2, .int .i64 most3]) orc orc_wide Tryz.func140 (by kernel_rfl) (by kernel_rfl) (Eq.mp (by kernel_rfl : ir_between_sh n_1 least2 most3 w K = wpc orc Tryz.f140.ntmps ir_between_an (bodyOf Tryz.f140) (argl 0 [.int .i64 n_1, .int .i64 least2, .int .i64 most3]) w (retQ orc Tryz.f140.results.toList K)) h)

def ir_two_sh (op1 : Int) (w : World) (K : Value → World → Prop) : Prop :=
 Calls Tryz.prog fn_cell_Two #[.int .i64 op1, .int .i64 (1 : Int), .int .i64 (1 : Int)] w fun e2 w3 => ∃ n4 : Int, ∃ b5 : Bool, e2 = .returned (.tuple #[.int .i64 n4, .bool b5]) ∧
 K (.bool b5) w3
def ir_two_an : An := ⟨[], [], []⟩
theorem ir_two_lift {op1 : Int} {w : World} {K : Value → World → Prop} (h : ir_two_sh op1 w K) : Calls Tryz.prog fn_ir_two #[.int .i64 op1] w fun e w' => ∃ v, e = .returned v ∧ K v w' :=
   lift_calls (A := ir_two_an) (c := bodyOf Tryz.f141) (args := [.int .i64 op1]) orc orc_wide Tryz.func141 (by kernel_rfl) (by kernel_rfl) (Eq.mp (by kernel_rfl : ir_two_sh op1 w K = wpc orc Tryz.f141.ntmps ir_two_an (bodyOf Tryz.f141) (argl 0 [.int .i64 op1]) w (retQ orc Tryz.f141.results.toList K)) h)

def ir_one_sh (op1 : Int) (w : World) (K : Value → World → Prop) : Prop :=
 Calls Tryz.prog fn_cell_One #[.int .i64 op1, .int .i64 (1 : Int)] w fun e2 w3 => ∃ n4 : Int, ∃ b5 : Bool, e2 = .returned (.tuple #[.int .i64 n4, .bool b5]) ∧
 K (.bool b5) w3
def ir_one_an : An := ⟨[], [], []⟩
theorem ir_one_lift {op1 : Int} {w : World} {K : Value → World → Prop} (h : ir_one_sh op1 w K) : Calls Tryz.prog fn_ir_one #[.int .i64 op1] w fun e w' => ∃ v, e = .returned v ∧ K v w' :=
   lift_calls (A := ir_one_an) (c := bodyOf Tryz.f142) (args := [.int .i64 op1]) orc orc_wide Tryz.func142 (by kernel_rfl) (by kernel_rfl) (Eq.mp (by kernel_rfl : ir_one_sh op1 w K = wpc orc Tryz.f142.ntmps ir_one_an (bodyOf Tryz.f142) (argl 0 [.int .i64 op1]) w (retQ orc Tryz.f142.results.toList K)) h)

end Go.Proofs.YtblmoilneiffgaaGreat

/- Functions of Fold, read without their frames; that each is enough. Printed by a program of mine (wip/lift/gen.py). -/
set_option maxRecDepth 100000
namespace Go.Proofs.YtblmoilneiffgaaGreat
open Go.RowKit

end Go.Proofs.YtblmoilneiffgaaGreat
