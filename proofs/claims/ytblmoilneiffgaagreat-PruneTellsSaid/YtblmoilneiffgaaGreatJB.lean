/- The lifted texts of the packages ir, fold, forward, prune. -/
import Derived.Test.YtblmoilneiffgaaGreatJ4

/- Functions of Ir, read without their frames; that each is enough. Printed by a program of mine (wip/lift/gen.py). -/
set_option maxRecDepth 100000
namespace Go.Proofs.YtblmoilneiffgaaGreat
open Go.RowKit

-- holloway/ir.Right
def ir_Right_sh (t__Start1 : Int) (t__Slots2 : Int) (t__Backs3 : Int) (t__Grow4 : Int) (t__GrowBack5 : Int) (t__Ins6 : Sl) (t__Outs7 : Sl) (t__Last8 : Int) (t__Cells9 : Sl) (w : World) (K : Value → World → Prop) : Prop :=
 ∀ (b10 : Nat) (w11 : World), b10 = w.heap.size → w11 = World.alloc w (.cells #[.int .i64 t__Start1, .int .i64 t__Slots2, .int .i64 t__Backs3, .int .i64 t__Grow4, .int .i64 t__GrowBack5, t__Ins6.val, t__Outs7.val, .int .i64 t__Last8, t__Cells9.val] T_api_Trace) →
 ∃ J3 : Bool → World → Prop, (∀ (b47 : Bool) (w46 : World), J3 b47 w46 →
 brB b47
 (K (.bool false) w46)
 (∃ s48 : Sl, w46.cell? ⟨b10, 6, none⟩ = some (s48.val) ∧
 ∃ (I1 : Int → World → Prop) (μ1 : Int → World → Nat), I1 (0 : Int) w46 ∧ ∀ (n50 : Int) (w49 : World), I1 n50 w49 →
 brB (decide (n50 < (s48.len : Int)))
 (∃ a51 : Addr, s48.ptr = some a51 ∧ 0 ≤ n50 ∧ n50 < (s48.len : Int) ∧
 ∃ n_Ip52 : Int, ∃ n_Steps53 : Int, ∃ s_Stack54 : Sl, ∃ s_Back55 : Sl, w49.cell? (Addr.add a51 (Int.toNat n50 * 4)) = some (.int .i64 n_Ip52) ∧ w49.cell? (Addr.add (Addr.add a51 (Int.toNat n50 * 4)) 1) = some (.int .i64 n_Steps53) ∧ w49.cell? (Addr.add (Addr.add a51 (Int.toNat n50 * 4)) 2) = some (s_Stack54.val) ∧ w49.cell? (Addr.add (Addr.add a51 (Int.toNat n50 * 4)) 3) = some (s_Back55.val) ∧
 ∀ (b56 : Nat) (w57 : World), b56 = w49.heap.size → w57 = World.alloc w49 (.cells #[.int .i64 (0 : Int), .int .i64 (0 : Int), .slice none 0 0, .slice none 0 0] T_api_Out) →
 wrOk w57 ⟨b56, 0, none⟩ 4 ∧ ∀ w58 : World, w58 = stW w57 ⟨b56, 0, none⟩ 0 [.int .i64 n_Ip52, .int .i64 n_Steps53, s_Stack54.val, s_Back55.val] →
 ∃ n_Start59 : Int, ∃ n_Slots60 : Int, ∃ n_Backs61 : Int, ∃ n_Grow62 : Int, ∃ n_GrowBack63 : Int, ∃ s_Ins64 : Sl, ∃ s_Outs65 : Sl, ∃ n_Last66 : Int, ∃ s_Cells67 : Sl, w58.cell? ⟨b10, 0, none⟩ = some (.int .i64 n_Start59) ∧ w58.cell? ⟨b10, 1, none⟩ = some (.int .i64 n_Slots60) ∧ w58.cell? ⟨b10, 2, none⟩ = some (.int .i64 n_Backs61) ∧ w58.cell? ⟨b10, 3, none⟩ = some (.int .i64 n_Grow62) ∧ w58.cell? ⟨b10, 4, none⟩ = some (.int .i64 n_GrowBack63) ∧ w58.cell? ⟨b10, 5, none⟩ = some (s_Ins64.val) ∧ w58.cell? ⟨b10, 6, none⟩ = some (s_Outs65.val) ∧ w58.cell? ⟨b10, 7, none⟩ = some (.int .i64 n_Last66) ∧ w58.cell? ⟨b10, 8, none⟩ = some (s_Cells67.val) ∧
 ∃ n_Ip68 : Int, ∃ n_Steps69 : Int, ∃ s_Stack70 : Sl, ∃ s_Back71 : Sl, w58.cell? ⟨b56, 0, none⟩ = some (.int .i64 n_Ip68) ∧ w58.cell? ⟨b56, 1, none⟩ = some (.int .i64 n_Steps69) ∧ w58.cell? ⟨b56, 2, none⟩ = some (s_Stack70.val) ∧ w58.cell? ⟨b56, 3, none⟩ = some (s_Back71.val) ∧
 Calls Tryz.prog fn_ir_out #[.agg #[.int .i64 n_Start59, .int .i64 n_Slots60, .int .i64 n_Backs61, .int .i64 n_Grow62, .int .i64 n_GrowBack63, s_Ins64.val, s_Outs65.val, .int .i64 n_Last66, s_Cells67.val], .agg #[.int .i64 n_Ip68, .int .i64 n_Steps69, s_Stack70.val, s_Back71.val]] w58 fun e72 w73 => ∃ b74 : Bool, e72 = .returned (.bool b74) ∧
 brB (!b74)
 (K (.bool false) w73)
 (I1 (wr (n50 + (1 : Int))) w73 ∧ μ1 (wr (n50 + (1 : Int))) w73 < μ1 n50 w49))
 (∃ s75 : Sl, w49.cell? ⟨b10, 5, none⟩ = some (s75.val) ∧
 ∃ (I2 : Int → World → Prop) (μ2 : Int → World → Nat), I2 (0 : Int) w49 ∧ ∀ (n77 : Int) (w76 : World), I2 n77 w76 →
 brB (decide (n77 < (s75.len : Int)))
 (∃ a78 : Addr, s75.ptr = some a78 ∧ 0 ≤ n77 ∧ n77 < (s75.len : Int) ∧
 ∃ n_Op79 : Int, ∃ n_A80 : Int, ∃ n_B81 : Int, ∃ n_C82 : Int, ∃ n_X83 : Int, w76.cell? (Addr.add a78 (Int.toNat n77 * 5)) = some (.int .i64 n_Op79) ∧ w76.cell? (Addr.add (Addr.add a78 (Int.toNat n77 * 5)) 1) = some (.int .i64 n_A80) ∧ w76.cell? (Addr.add (Addr.add a78 (Int.toNat n77 * 5)) 2) = some (.int .i64 n_B81) ∧ w76.cell? (Addr.add (Addr.add a78 (Int.toNat n77 * 5)) 3) = some (.int .i64 n_C82) ∧ w76.cell? (Addr.add (Addr.add a78 (Int.toNat n77 * 5)) 4) = some (.int .i64 n_X83) ∧
 ∀ (b84 : Nat) (w85 : World), b84 = w76.heap.size → w85 = World.alloc w76 (.cells #[.int .i64 (0 : Int), .int .i64 (0 : Int), .int .i64 (0 : Int), .int .i64 (0 : Int), .int .i64 (0 : Int)] T_api_Ins) →
 wrOk w85 ⟨b84, 0, none⟩ 5 ∧ ∀ w86 : World, w86 = stW w85 ⟨b84, 0, none⟩ 0 [.int .i64 n_Op79, .int .i64 n_A80, .int .i64 n_B81, .int .i64 n_C82, .int .i64 n_X83] →
 ∃ J20 : Bool → World → Prop, (∀ (b127 : Bool) (w126 : World), J20 b127 w126 →
 brB b127
 (K (.bool false) w126)
 (∃ n_Op128 : Int, ∃ n_A129 : Int, ∃ n_B130 : Int, ∃ n_C131 : Int, ∃ n_X132 : Int, w126.cell? ⟨b84, 0, none⟩ = some (.int .i64 n_Op128) ∧ w126.cell? ⟨b84, 1, none⟩ = some (.int .i64 n_A129) ∧ w126.cell? ⟨b84, 2, none⟩ = some (.int .i64 n_B130) ∧ w126.cell? ⟨b84, 3, none⟩ = some (.int .i64 n_C131) ∧ w126.cell? ⟨b84, 4, none⟩ = some (.int .i64 n_X132) ∧
 Calls Tryz.prog fn_ir_Outs #[.agg #[.int .i64 n_Op128, .int .i64 n_A129, .int .i64 n_B130, .int .i64 n_C131, .int .i64 n_X132]] w126 fun e133 w134 => ∃ s135 : Sl, e133 = .returned (s135.val) ∧
 ∃ (I3 : Int → World → Prop) (μ3 : Int → World → Nat), I3 (0 : Int) w134 ∧ ∀ (n137 : Int) (w136 : World), I3 n137 w136 →
 brB (decide (n137 < (s135.len : Int)))
 (∃ a138 : Addr, s135.ptr = some a138 ∧ 0 ≤ n137 ∧ n137 < (s135.len : Int) ∧
 ∃ n139 : Int, w136.cell? (Addr.add a138 (Int.toNat n137 * 1)) = some (.int .i64 n139) ∧
 ∃ n_Start140 : Int, ∃ n_Slots141 : Int, ∃ n_Backs142 : Int, ∃ n_Grow143 : Int, ∃ n_GrowBack144 : Int, ∃ s_Ins145 : Sl, ∃ s_Outs146 : Sl, ∃ n_Last147 : Int, ∃ s_Cells148 : Sl, w136.cell? ⟨b10, 0, none⟩ = some (.int .i64 n_Start140) ∧ w136.cell? ⟨b10, 1, none⟩ = some (.int .i64 n_Slots141) ∧ w136.cell? ⟨b10, 2, none⟩ = some (.int .i64 n_Backs142) ∧ w136.cell? ⟨b10, 3, none⟩ = some (.int .i64 n_Grow143) ∧ w136.cell? ⟨b10, 4, none⟩ = some (.int .i64 n_GrowBack144) ∧ w136.cell? ⟨b10, 5, none⟩ = some (s_Ins145.val) ∧ w136.cell? ⟨b10, 6, none⟩ = some (s_Outs146.val) ∧ w136.cell? ⟨b10, 7, none⟩ = some (.int .i64 n_Last147) ∧ w136.cell? ⟨b10, 8, none⟩ = some (s_Cells148.val) ∧
 Calls Tryz.prog fn_ir_named #[.agg #[.int .i64 n_Start140, .int .i64 n_Slots141, .int .i64 n_Backs142, .int .i64 n_Grow143, .int .i64 n_GrowBack144, s_Ins145.val, s_Outs146.val, .int .i64 n_Last147, s_Cells148.val], .int .i64 n139, .int .i64 n77] w136 fun e149 w150 => ∃ b151 : Bool, e149 = .returned (.bool b151) ∧
 brB (!b151)
 (K (.bool false) w150)
 (I3 (wr (n137 + (1 : Int))) w150 ∧ μ3 (wr (n137 + (1 : Int))) w150 < μ3 n137 w136))
 (I2 (wr (n77 + (1 : Int))) w136 ∧ μ2 (wr (n77 + (1 : Int))) w136 < μ2 n77 w76))) ∧
 ∀ w87 : World, w87 = World.drew w86 →
 ∃ S88 : World → Prop, S88 w87 ∧
 ∃ n_Start89 : Int, ∃ n_Slots90 : Int, ∃ n_Backs91 : Int, ∃ n_Grow92 : Int, ∃ n_GrowBack93 : Int, ∃ s_Ins94 : Sl, ∃ s_Outs95 : Sl, ∃ n_Last96 : Int, ∃ s_Cells97 : Sl, held S88 ⟨b10, 0, none⟩ (.int .i64 n_Start89) ∧ held S88 ⟨b10, 1, none⟩ (.int .i64 n_Slots90) ∧ held S88 ⟨b10, 2, none⟩ (.int .i64 n_Backs91) ∧ held S88 ⟨b10, 3, none⟩ (.int .i64 n_Grow92) ∧ held S88 ⟨b10, 4, none⟩ (.int .i64 n_GrowBack93) ∧ held S88 ⟨b10, 5, none⟩ (s_Ins94.val) ∧ held S88 ⟨b10, 6, none⟩ (s_Outs95.val) ∧ held S88 ⟨b10, 7, none⟩ (.int .i64 n_Last96) ∧ held S88 ⟨b10, 8, none⟩ (s_Cells97.val) ∧
 ∃ n_Op98 : Int, ∃ n_A99 : Int, ∃ n_B100 : Int, ∃ n_C101 : Int, ∃ n_X102 : Int, held S88 ⟨b84, 0, none⟩ (.int .i64 n_Op98) ∧ held S88 ⟨b84, 1, none⟩ (.int .i64 n_A99) ∧ held S88 ⟨b84, 2, none⟩ (.int .i64 n_B100) ∧ held S88 ⟨b84, 3, none⟩ (.int .i64 n_C101) ∧ held S88 ⟨b84, 4, none⟩ (.int .i64 n_X102) ∧
 Calls Tryz.prog fn_ir_single #[.agg #[.int .i64 n_Start89, .int .i64 n_Slots90, .int .i64 n_Backs91, .int .i64 n_Grow92, .int .i64 n_GrowBack93, s_Ins94.val, s_Outs95.val, .int .i64 n_Last96, s_Cells97.val], .agg #[.int .i64 n_Op98, .int .i64 n_A99, .int .i64 n_B100, .int .i64 n_C101, .int .i64 n_X102]] w87 fun e103 w104 => ∃ b105 : Bool, e103 = .returned (.bool b105) ∧
 S88 w104 ∧
 brB (!b105)
 (J20 true w104)
 (∃ n_Start106 : Int, ∃ n_Slots107 : Int, ∃ n_Backs108 : Int, ∃ n_Grow109 : Int, ∃ n_GrowBack110 : Int, ∃ s_Ins111 : Sl, ∃ s_Outs112 : Sl, ∃ n_Last113 : Int, ∃ s_Cells114 : Sl, held S88 ⟨b10, 0, none⟩ (.int .i64 n_Start106) ∧ held S88 ⟨b10, 1, none⟩ (.int .i64 n_Slots107) ∧ held S88 ⟨b10, 2, none⟩ (.int .i64 n_Backs108) ∧ held S88 ⟨b10, 3, none⟩ (.int .i64 n_Grow109) ∧ held S88 ⟨b10, 4, none⟩ (.int .i64 n_GrowBack110) ∧ held S88 ⟨b10, 5, none⟩ (s_Ins111.val) ∧ held S88 ⟨b10, 6, none⟩ (s_Outs112.val) ∧ held S88 ⟨b10, 7, none⟩ (.int .i64 n_Last113) ∧ held S88 ⟨b10, 8, none⟩ (s_Cells114.val) ∧
 ∃ n_Op115 : Int, ∃ n_A116 : Int, ∃ n_B117 : Int, ∃ n_C118 : Int, ∃ n_X119 : Int, held S88 ⟨b84, 0, none⟩ (.int .i64 n_Op115) ∧ held S88 ⟨b84, 1, none⟩ (.int .i64 n_A116) ∧ held S88 ⟨b84, 2, none⟩ (.int .i64 n_B117) ∧ held S88 ⟨b84, 3, none⟩ (.int .i64 n_C118) ∧ held S88 ⟨b84, 4, none⟩ (.int .i64 n_X119) ∧
 Calls Tryz.prog fn_ir_Uses #[.agg #[.int .i64 n_Op115, .int .i64 n_A116, .int .i64 n_B117, .int .i64 n_C118, .int .i64 n_X119]] w104 fun e120 w121 => ∃ s122 : Sl, e120 = .returned (s122.val) ∧
 S88 w121 ∧
 Calls Tryz.prog fn_ir_places #[.agg #[.int .i64 n_Start106, .int .i64 n_Slots107, .int .i64 n_Backs108, .int .i64 n_Grow109, .int .i64 n_GrowBack110, s_Ins111.val, s_Outs112.val, .int .i64 n_Last113, s_Cells114.val], s122.val, .int .i64 n77] w121 fun e123 w124 => ∃ b125 : Bool, e123 = .returned (.bool b125) ∧
 J20 (!b125) w124))
 (K (.bool true) w76)))) ∧
 ∃ n_Start12 : Int, ∃ n_Slots13 : Int, ∃ n_Backs14 : Int, ∃ n_Grow15 : Int, ∃ n_GrowBack16 : Int, ∃ s_Ins17 : Sl, ∃ s_Outs18 : Sl, ∃ n_Last19 : Int, ∃ s_Cells20 : Sl, w11.cell? ⟨b10, 0, none⟩ = some (.int .i64 n_Start12) ∧ w11.cell? ⟨b10, 1, none⟩ = some (.int .i64 n_Slots13) ∧ w11.cell? ⟨b10, 2, none⟩ = some (.int .i64 n_Backs14) ∧ w11.cell? ⟨b10, 3, none⟩ = some (.int .i64 n_Grow15) ∧ w11.cell? ⟨b10, 4, none⟩ = some (.int .i64 n_GrowBack16) ∧ w11.cell? ⟨b10, 5, none⟩ = some (s_Ins17.val) ∧ w11.cell? ⟨b10, 6, none⟩ = some (s_Outs18.val) ∧ w11.cell? ⟨b10, 7, none⟩ = some (.int .i64 n_Last19) ∧ w11.cell? ⟨b10, 8, none⟩ = some (s_Cells20.val) ∧
 Calls Tryz.prog fn_ir_head #[.agg #[.int .i64 n_Start12, .int .i64 n_Slots13, .int .i64 n_Backs14, .int .i64 n_Grow15, .int .i64 n_GrowBack16, s_Ins17.val, s_Outs18.val, .int .i64 n_Last19, s_Cells20.val]] w11 fun e21 w22 => ∃ b23 : Bool, e21 = .returned (.bool b23) ∧
 brB (!b23)
 (J3 true w22)
 (∃ s24 : Sl, w22.cell? ⟨b10, 8, none⟩ = some (s24.val) ∧
 Calls Tryz.prog fn_ir_cells #[s24.val] w22 fun e25 w26 => ∃ b27 : Bool, e25 = .returned (.bool b27) ∧
 brB (!b27)
 (J3 true w26)
 (∃ n_Start28 : Int, ∃ n_Slots29 : Int, ∃ n_Backs30 : Int, ∃ n_Grow31 : Int, ∃ n_GrowBack32 : Int, ∃ s_Ins33 : Sl, ∃ s_Outs34 : Sl, ∃ n_Last35 : Int, ∃ s_Cells36 : Sl, w26.cell? ⟨b10, 0, none⟩ = some (.int .i64 n_Start28) ∧ w26.cell? ⟨b10, 1, none⟩ = some (.int .i64 n_Slots29) ∧ w26.cell? ⟨b10, 2, none⟩ = some (.int .i64 n_Backs30) ∧ w26.cell? ⟨b10, 3, none⟩ = some (.int .i64 n_Grow31) ∧ w26.cell? ⟨b10, 4, none⟩ = some (.int .i64 n_GrowBack32) ∧ w26.cell? ⟨b10, 5, none⟩ = some (s_Ins33.val) ∧ w26.cell? ⟨b10, 6, none⟩ = some (s_Outs34.val) ∧ w26.cell? ⟨b10, 7, none⟩ = some (.int .i64 n_Last35) ∧ w26.cell? ⟨b10, 8, none⟩ = some (s_Cells36.val) ∧
 ∃ n37 : Int, w26.cell? ⟨b10, 7, none⟩ = some (.int .i64 n37) ∧
 ∃ s38 : Sl, w26.cell? ⟨b10, 5, none⟩ = some (s38.val) ∧
 Calls Tryz.prog fn_ir_named #[.agg #[.int .i64 n_Start28, .int .i64 n_Slots29, .int .i64 n_Backs30, .int .i64 n_Grow31, .int .i64 n_GrowBack32, s_Ins33.val, s_Outs34.val, .int .i64 n_Last35, s_Cells36.val], .int .i64 n37, .int .i64 (s38.len : Int)] w26 fun e39 w40 => ∃ b41 : Bool, e39 = .returned (.bool b41) ∧
 brB (!b41)
 (J3 true w40)
 (∃ s42 : Sl, w40.cell? ⟨b10, 6, none⟩ = some (s42.val) ∧
 ∃ n43 : Int, w40.cell? ⟨b10, 7, none⟩ = some (.int .i64 n43) ∧
 ∃ a44 : Addr, s42.ptr = some a44 ∧ 0 ≤ n43 ∧ n43 < (s42.len : Int) ∧
 ∃ n45 : Int, w40.cell? (Addr.add (Addr.add a44 (Int.toNat n43 * 4)) 1) = some (.int .i64 n45) ∧
 J3 (decide (n45 < (1 : Int))) w40)))
def ir_Right_an : An := ⟨[(4, [(41, .int .i64)]), (10, [(53, .int .i64)]), (15, [(73, .int .i64)])], [(12, (9, .st 0 (.st 1 (.ef 2 (.st 3 (.st 4 (.st 5 (.st 6 (.st 8 (.ef 7 .done)))))))), 1))], [(2, [(37, .bool)]), (13, [(69, .bool)])]⟩
theorem ir_Right_lift {t__Start1 : Int} {t__Slots2 : Int} {t__Backs3 : Int} {t__Grow4 : Int} {t__GrowBack5 : Int} {t__Ins6 : Sl} {t__Outs7 : Sl} {t__Last8 : Int} {t__Cells9 : Sl} {w : World} {K : Value → World → Prop} (h : ir_Right_sh t__Start1 t__Slots2 t__Backs3 t__Grow4 t__GrowBack5 t__Ins6 t__Outs7 t__Last8 t__Cells9 w K) : Calls Tryz.prog fn_ir_Right #[.agg #[.int .i64 t__Start1, .int .i64 t__Slots2, .int .i64 t__Backs3, .int .i64 t__Grow4, .int .i64 t__GrowBack5, t__Ins6.val, t__Outs7.val, .int .i64 t__Last8, t__Cells9.val]] w fun e w' => ∃ v, e = .returned v ∧ K v w' :=
   lift_calls (A := ir_Right_an) (c := bodyOf Tryz.f81) (args := [.agg #[.int .i64 t__Start1, .int .i64 t__Slots2, .int .i64 t__Backs3, .int .i64 t__Grow4, .int .i64 t__GrowBack5, t__Ins6.val, t__Outs7.val, .int .i64 t__Last8, t__Cells9.val]]) orc orc_wide Tryz.func81 (by kernel_rfl) (by kernel_rfl) (Eq.mp (by kernel_rfl : ir_Right_sh t__Start1 t__Slots2 t__Backs3 t__Grow4 t__GrowBack5 t__Ins6 t__Outs7 t__Last8 t__Cells9 w K = wpc orc Tryz.f81.ntmps ir_Right_an (bodyOf Tryz.f81) (argl 0 [.agg #[.int .i64 t__Start1, .int .i64 t__Slots2, .int .i64 t__Backs3, .int .i64 t__Grow4, .int .i64 t__GrowBack5, t__Ins6.val, t__Outs7.val, .int .i64 t__Last8, t__Cells9.val]]) w (retQ orc Tryz.f81.results.toList K)) h)

-- holloway/ir.head
def ir_head_sh (t__Start1 : Int) (t__Slots2 : Int) (t__Backs3 : Int) (t__Grow4 : Int) (t__GrowBack5 : Int) (t__Ins6 : Sl) (t__Outs7 : Sl) (t__Last8 : Int) (t__Cells9 : Sl) (w : World) (K : Value → World → Prop) : Prop :=
 ∀ (b10 : Nat) (w11 : World), b10 = w.heap.size → w11 = World.alloc w (.cells #[.int .i64 t__Start1, .int .i64 t__Slots2, .int .i64 t__Backs3, .int .i64 t__Grow4, .int .i64 t__GrowBack5, t__Ins6.val, t__Outs7.val, .int .i64 t__Last8, t__Cells9.val] T_api_Trace) →
 ∃ J2 : Bool → World → Prop, (∀ (numbers29 : Bool) (w28 : World), J2 numbers29 w28 →
 brB numbers29
 (∃ s30 : Sl, w28.cell? ⟨b10, 5, none⟩ = some (s30.val) ∧
 brB (decide ((s30.len : Int) ≤ (1000 : Int)))
 (∃ s31 : Sl, w28.cell? ⟨b10, 6, none⟩ = some (s31.val) ∧
 brB (decide ((s31.len : Int) ≤ (300 : Int)))
 (∃ n32 : Int, w28.cell? ⟨b10, 0, none⟩ = some (.int .i64 n32) ∧
 Calls Tryz.prog fn_ir_between #[.int .i64 n32, .int .i64 (0 : Int), .int .i64 (2999 : Int)] w28 fun e33 w34 => ∃ b35 : Bool, e33 = .returned (.bool b35) ∧
 K (.bool b35) w34)
 (K (.bool false) w28))
 (K (.bool false) w28))
 (K (.bool false) w28)) ∧
 ∃ n12 : Int, w11.cell? ⟨b10, 1, none⟩ = some (.int .i64 n12) ∧
 Calls Tryz.prog fn_ir_between #[.int .i64 n12, .int .i64 (0 : Int), .int .i64 (48 : Int)] w11 fun e13 w14 => ∃ b15 : Bool, e13 = .returned (.bool b15) ∧
 brB b15
 (∃ n16 : Int, w14.cell? ⟨b10, 3, none⟩ = some (.int .i64 n16) ∧
 Calls Tryz.prog fn_ir_between #[.int .i64 n16, .int .i64 (0 : Int), .int .i64 (48 : Int)] w14 fun e17 w18 => ∃ b19 : Bool, e17 = .returned (.bool b19) ∧
 brB b19
 (∃ n20 : Int, w18.cell? ⟨b10, 2, none⟩ = some (.int .i64 n20) ∧
 Calls Tryz.prog fn_ir_between #[.int .i64 n20, .int .i64 (0 : Int), .int .i64 (48 : Int)] w18 fun e21 w22 => ∃ b23 : Bool, e21 = .returned (.bool b23) ∧
 brB b23
 (∃ n24 : Int, w22.cell? ⟨b10, 4, none⟩ = some (.int .i64 n24) ∧
 Calls Tryz.prog fn_ir_between #[.int .i64 n24, .int .i64 (0 : Int), .int .i64 (48 : Int)] w22 fun e25 w26 => ∃ b27 : Bool, e25 = .returned (.bool b27) ∧
 J2 b27 w26)
 (J2 false w22))
 (J2 false w18))
 (J2 false w14)
def ir_head_an : An := ⟨[], [], [(2, [(3, .bool)])]⟩
theorem ir_head_lift {t__Start1 : Int} {t__Slots2 : Int} {t__Backs3 : Int} {t__Grow4 : Int} {t__GrowBack5 : Int} {t__Ins6 : Sl} {t__Outs7 : Sl} {t__Last8 : Int} {t__Cells9 : Sl} {w : World} {K : Value → World → Prop} (h : ir_head_sh t__Start1 t__Slots2 t__Backs3 t__Grow4 t__GrowBack5 t__Ins6 t__Outs7 t__Last8 t__Cells9 w K) : Calls Tryz.prog fn_ir_head #[.agg #[.int .i64 t__Start1, .int .i64 t__Slots2, .int .i64 t__Backs3, .int .i64 t__Grow4, .int .i64 t__GrowBack5, t__Ins6.val, t__Outs7.val, .int .i64 t__Last8, t__Cells9.val]] w fun e w' => ∃ v, e = .returned v ∧ K v w' :=
   lift_calls (A := ir_head_an) (c := bodyOf Tryz.f114) (args := [.agg #[.int .i64 t__Start1, .int .i64 t__Slots2, .int .i64 t__Backs3, .int .i64 t__Grow4, .int .i64 t__GrowBack5, t__Ins6.val, t__Outs7.val, .int .i64 t__Last8, t__Cells9.val]]) orc orc_wide Tryz.func114 (by kernel_rfl) (by kernel_rfl) (Eq.mp (by kernel_rfl : ir_head_sh t__Start1 t__Slots2 t__Backs3 t__Grow4 t__GrowBack5 t__Ins6 t__Outs7 t__Last8 t__Cells9 w K = wpc orc Tryz.f114.ntmps ir_head_an (bodyOf Tryz.f114) (argl 0 [.agg #[.int .i64 t__Start1, .int .i64 t__Slots2, .int .i64 t__Backs3, .int .i64 t__Grow4, .int .i64 t__GrowBack5, t__Ins6.val, t__Outs7.val, .int .i64 t__Last8, t__Cells9.val]]) w (retQ orc Tryz.f114.results.toList K)) h)

-- holloway/ir.cells
def ir_cells_sh (l_1 : Sl) (w : World) (K : Value → World → Prop) : Prop :=
 ∃ (I1 : Int → Int → World → Prop) (μ1 : Int → Int → World → Nat), I1 (-1 : Int) (0 : Int) w ∧ ∀ (last6 : Int) (n3 : Int) (w2 : World), I1 last6 n3 w2 →
 brB (decide (n3 < (l_1.len : Int)))
 (∃ a4 : Addr, l_1.ptr = some a4 ∧ 0 ≤ n3 ∧ n3 < (l_1.len : Int) ∧
 ∃ n5 : Int, w2.cell? (Addr.add a4 (Int.toNat n3 * 1)) = some (.int .i64 n5) ∧
 ∃ J10 : Bool → World → Prop, (∀ (b8 : Bool) (w7 : World), J10 b8 w7 →
 brB b8
 (K (.bool false) w7)
 (I1 n5 (wr (n3 + (1 : Int))) w7 ∧ μ1 n5 (wr (n3 + (1 : Int))) w7 < μ1 last6 n3 w2)) ∧
 brB (decide (n5 ≤ last6))
 (J10 true w2)
 (J10 (decide (n5 ≥ (3000 : Int))) w2))
 (K (.bool true) w2)
def ir_cells_an : An := ⟨[(3, [(3, .int .i64), (8, .int .i64)])], [], [(6, [(18, .bool)])]⟩
theorem ir_cells_lift {l_1 : Sl} {w : World} {K : Value → World → Prop} (h : ir_cells_sh l_1 w K) : Calls Tryz.prog fn_ir_cells #[l_1.val] w fun e w' => ∃ v, e = .returned v ∧ K v w' :=
   lift_calls (A := ir_cells_an) (c := bodyOf Tryz.f115) (args := [l_1.val]) orc orc_wide Tryz.func115 (by kernel_rfl) (by kernel_rfl) (Eq.mp (by kernel_rfl : ir_cells_sh l_1 w K = wpc orc Tryz.f115.ntmps ir_cells_an (bodyOf Tryz.f115) (argl 0 [l_1.val]) w (retQ orc Tryz.f115.results.toList K)) h)

-- holloway/ir.named
def ir_named_sh (t__Start1 : Int) (t__Slots2 : Int) (t__Backs3 : Int) (t__Grow4 : Int) (t__GrowBack5 : Int) (t__Ins6 : Sl) (t__Outs7 : Sl) (t__Last8 : Int) (t__Cells9 : Sl) (x_10 : Int) (at_11 : Int) (w : World) (K : Value → World → Prop) : Prop :=
 ∀ (b12 : Nat) (w13 : World), b12 = w.heap.size → w13 = World.alloc w (.cells #[.int .i64 t__Start1, .int .i64 t__Slots2, .int .i64 t__Backs3, .int .i64 t__Grow4, .int .i64 t__GrowBack5, t__Ins6.val, t__Outs7.val, .int .i64 t__Last8, t__Cells9.val] T_api_Trace) →
 ∀ w14 : World, w14 = World.drew w13 →
 ∃ S15 : World → Prop, S15 w14 ∧
 brB (decide (x_10 ≥ (0 : Int)))
 (∃ s16 : Sl, held S15 ⟨b12, 6, none⟩ (s16.val) ∧
 brB (decide (x_10 < (s16.len : Int)))
 (∃ n_Start17 : Int, ∃ n_Slots18 : Int, ∃ n_Backs19 : Int, ∃ n_Grow20 : Int, ∃ n_GrowBack21 : Int, ∃ s_Ins22 : Sl, ∃ s_Outs23 : Sl, ∃ n_Last24 : Int, ∃ s_Cells25 : Sl, held S15 ⟨b12, 0, none⟩ (.int .i64 n_Start17) ∧ held S15 ⟨b12, 1, none⟩ (.int .i64 n_Slots18) ∧ held S15 ⟨b12, 2, none⟩ (.int .i64 n_Backs19) ∧ held S15 ⟨b12, 3, none⟩ (.int .i64 n_Grow20) ∧ held S15 ⟨b12, 4, none⟩ (.int .i64 n_GrowBack21) ∧ held S15 ⟨b12, 5, none⟩ (s_Ins22.val) ∧ held S15 ⟨b12, 6, none⟩ (s_Outs23.val) ∧ held S15 ⟨b12, 7, none⟩ (.int .i64 n_Last24) ∧ held S15 ⟨b12, 8, none⟩ (s_Cells25.val) ∧
 ∃ s26 : Sl, held S15 ⟨b12, 6, none⟩ (s26.val) ∧
 ∃ a27 : Addr, s26.ptr = some a27 ∧ 0 ≤ x_10 ∧ x_10 < (s26.len : Int) ∧
 ∃ s28 : Sl, held S15 (Addr.add (Addr.add a27 (Int.toNat x_10 * 4)) 2) (s28.val) ∧
 Calls Tryz.prog fn_ir_places #[.agg #[.int .i64 n_Start17, .int .i64 n_Slots18, .int .i64 n_Backs19, .int .i64 n_Grow20, .int .i64 n_GrowBack21, s_Ins22.val, s_Outs23.val, .int .i64 n_Last24, s_Cells25.val], s28.val, .int .i64 at_11] w14 fun e29 w30 => ∃ b31 : Bool, e29 = .returned (.bool b31) ∧
 S15 w30 ∧
 brB b31
 (∃ n_Start32 : Int, ∃ n_Slots33 : Int, ∃ n_Backs34 : Int, ∃ n_Grow35 : Int, ∃ n_GrowBack36 : Int, ∃ s_Ins37 : Sl, ∃ s_Outs38 : Sl, ∃ n_Last39 : Int, ∃ s_Cells40 : Sl, held S15 ⟨b12, 0, none⟩ (.int .i64 n_Start32) ∧ held S15 ⟨b12, 1, none⟩ (.int .i64 n_Slots33) ∧ held S15 ⟨b12, 2, none⟩ (.int .i64 n_Backs34) ∧ held S15 ⟨b12, 3, none⟩ (.int .i64 n_Grow35) ∧ held S15 ⟨b12, 4, none⟩ (.int .i64 n_GrowBack36) ∧ held S15 ⟨b12, 5, none⟩ (s_Ins37.val) ∧ held S15 ⟨b12, 6, none⟩ (s_Outs38.val) ∧ held S15 ⟨b12, 7, none⟩ (.int .i64 n_Last39) ∧ held S15 ⟨b12, 8, none⟩ (s_Cells40.val) ∧
 ∃ s41 : Sl, held S15 ⟨b12, 6, none⟩ (s41.val) ∧
 ∃ a42 : Addr, s41.ptr = some a42 ∧ 0 ≤ x_10 ∧ x_10 < (s41.len : Int) ∧
 ∃ s43 : Sl, held S15 (Addr.add (Addr.add a42 (Int.toNat x_10 * 4)) 3) (s43.val) ∧
 Calls Tryz.prog fn_ir_places #[.agg #[.int .i64 n_Start32, .int .i64 n_Slots33, .int .i64 n_Backs34, .int .i64 n_Grow35, .int .i64 n_GrowBack36, s_Ins37.val, s_Outs38.val, .int .i64 n_Last39, s_Cells40.val], s43.val, .int .i64 at_11] w30 fun e44 w45 => ∃ b46 : Bool, e44 = .returned (.bool b46) ∧
 K (.bool b46) w45)
 (K (.bool false) w30))
 (K (.bool false) w14))
 (K (.bool false) w14)
def ir_named_an : An := ⟨[], [(1, (29, .st 0 (.st 1 (.st 2 (.st 3 (.st 4 (.st 5 (.st 6 (.st 7 (.st 8 (.st 9 (.st 10 (.st 11 (.st 12 (.st 13 (.st 14 (.st 15 (.st 16 (.st 17 (.ef 18 (.st 19 (.st 20 (.st 21 (.st 22 (.st 23 (.st 24 (.st 25 (.st 26 (.st 27 (.st 28 .done)))))))))))))))))))))))))))), 1))], []⟩
theorem ir_named_lift {t__Start1 : Int} {t__Slots2 : Int} {t__Backs3 : Int} {t__Grow4 : Int} {t__GrowBack5 : Int} {t__Ins6 : Sl} {t__Outs7 : Sl} {t__Last8 : Int} {t__Cells9 : Sl} {x_10 : Int} {at_11 : Int} {w : World} {K : Value → World → Prop} (h : ir_named_sh t__Start1 t__Slots2 t__Backs3 t__Grow4 t__GrowBack5 t__Ins6 t__Outs7 t__Last8 t__Cells9 x_10 at_11 w K) : Calls Tryz.prog fn_ir_named #[.agg #[.int .i64 t__Start1, .int .i64 t__Slots2, .int .i64 t__Backs3, .int .i64 t__Grow4, .int .i64 t__GrowBack5, t__Ins6.val, t__Outs7.val, .int .i64 t__Last8, t__Cells9.val], .int .i64 x_10, .int .i64 at_11] w fun e w' => ∃ v, e = .returned v ∧ K v w' :=
   lift_calls (A := ir_named_an) (c := bodyOf Tryz.f116) (args := [.agg #[.int .i64 t__Start1, .int .i64 t__Slots2, .int .i64 t__Backs3, .int .i64 t__Grow4, .int .i64 t__GrowBack5, t__Ins6.val, t__Outs7.val, .int .i64 t__Last8, t__Cells9.val], .int .i64 x_10, .int .i64 at_11]) orc orc_wide Tryz.func116 (by kernel_rfl) (by kernel_rfl) (Eq.mp (by kernel_rfl : ir_named_sh t__Start1 t__Slots2 t__Backs3 t__Grow4 t__GrowBack5 t__Ins6 t__Outs7 t__Last8 t__Cells9 x_10 at_11 w K = wpc orc Tryz.f116.ntmps ir_named_an (bodyOf Tryz.f116) (argl 0 [.agg #[.int .i64 t__Start1, .int .i64 t__Slots2, .int .i64 t__Backs3, .int .i64 t__Grow4, .int .i64 t__GrowBack5, t__Ins6.val, t__Outs7.val, .int .i64 t__Last8, t__Cells9.val], .int .i64 x_10, .int .i64 at_11]) w (retQ orc Tryz.f116.results.toList K)) h)

-- holloway/ir.out
def ir_out_sh (t__Start1 : Int) (t__Slots2 : Int) (t__Backs3 : Int) (t__Grow4 : Int) (t__GrowBack5 : Int) (t__Ins6 : Sl) (t__Outs7 : Sl) (t__Last8 : Int) (t__Cells9 : Sl) (x__Ip10 : Int) (x__Steps11 : Int) (x__Stack12 : Sl) (x__Back13 : Sl) (w : World) (K : Value → World → Prop) : Prop :=
 ∀ (b14 : Nat) (w15 : World), b14 = w.heap.size → w15 = World.alloc w (.cells #[.int .i64 t__Start1, .int .i64 t__Slots2, .int .i64 t__Backs3, .int .i64 t__Grow4, .int .i64 t__GrowBack5, t__Ins6.val, t__Outs7.val, .int .i64 t__Last8, t__Cells9.val] T_api_Trace) →
 ∀ (b16 : Nat) (w17 : World), b16 = w15.heap.size → w17 = World.alloc w15 (.cells #[.int .i64 x__Ip10, .int .i64 x__Steps11, x__Stack12.val, x__Back13.val] T_api_Out) →
 ∃ n18 : Int, w17.cell? ⟨b16, 1, none⟩ = some (.int .i64 n18) ∧
 Calls Tryz.prog fn_ir_between #[.int .i64 n18, .int .i64 (0 : Int), .int .i64 (120 : Int)] w17 fun e19 w20 => ∃ b21 : Bool, e19 = .returned (.bool b21) ∧
 brB b21
 (∃ n22 : Int, w20.cell? ⟨b16, 0, none⟩ = some (.int .i64 n22) ∧
 Calls Tryz.prog fn_ir_between #[.int .i64 n22, .int .i64 (0 : Int), .int .i64 (2999 : Int)] w20 fun e23 w24 => ∃ b25 : Bool, e23 = .returned (.bool b25) ∧
 brB b25
 (∃ s26 : Sl, w24.cell? ⟨b16, 2, none⟩ = some (s26.val) ∧
 ∃ n27 : Int, w24.cell? ⟨b14, 1, none⟩ = some (.int .i64 n27) ∧
 ∃ n28 : Int, w24.cell? ⟨b14, 3, none⟩ = some (.int .i64 n28) ∧
 brB (decide ((s26.len : Int) ≤ (wr (n27 + n28))))
 (∃ s29 : Sl, w24.cell? ⟨b16, 3, none⟩ = some (s29.val) ∧
 ∃ n30 : Int, w24.cell? ⟨b14, 2, none⟩ = some (.int .i64 n30) ∧
 ∃ n31 : Int, w24.cell? ⟨b14, 4, none⟩ = some (.int .i64 n31) ∧
 K (.bool (decide ((s29.len : Int) ≤ (wr (n30 + n31))))) w24)
 (K (.bool false) w24))
 (K (.bool false) w24))
 (K (.bool false) w20)
def ir_out_an : An := ⟨[], [], []⟩
theorem ir_out_lift {t__Start1 : Int} {t__Slots2 : Int} {t__Backs3 : Int} {t__Grow4 : Int} {t__GrowBack5 : Int} {t__Ins6 : Sl} {t__Outs7 : Sl} {t__Last8 : Int} {t__Cells9 : Sl} {x__Ip10 : Int} {x__Steps11 : Int} {x__Stack12 : Sl} {x__Back13 : Sl} {w : World} {K : Value → World → Prop} (h : ir_out_sh t__Start1 t__Slots2 t__Backs3 t__Grow4 t__GrowBack5 t__Ins6 t__Outs7 t__Last8 t__Cells9 x__Ip10 x__Steps11 x__Stack12 x__Back13 w K) : Calls Tryz.prog fn_ir_out #[.agg #[.int .i64 t__Start1, .int .i64 t__Slots2, .int .i64 t__Backs3, .int .i64 t__Grow4, .int .i64 t__GrowBack5, t__Ins6.val, t__Outs7.val, .int .i64 t__Last8, t__Cells9.val], .agg #[.int .i64 x__Ip10, .int .i64 x__Steps11, x__Stack12.val, x__Back13.val]] w fun e w' => ∃ v, e = .returned v ∧ K v w' :=
   lift_calls (A := ir_out_an) (c := bodyOf Tryz.f117) (args := [.agg #[.int .i64 t__Start1, .int .i64 t__Slots2, .int .i64 t__Backs3, .int .i64 t__Grow4, .int .i64 t__GrowBack5, t__Ins6.val, t__Outs7.val, .int .i64 t__Last8, t__Cells9.val], .agg #[.int .i64 x__Ip10, .int .i64 x__Steps11, x__Stack12.val, x__Back13.val]]) orc orc_wide Tryz.func117 (by kernel_rfl) (by kernel_rfl) (Eq.mp (by kernel_rfl : ir_out_sh t__Start1 t__Slots2 t__Backs3 t__Grow4 t__GrowBack5 t__Ins6 t__Outs7 t__Last8 t__Cells9 x__Ip10 x__Steps11 x__Stack12 x__Back13 w K = wpc orc Tryz.f117.ntmps ir_out_an (bodyOf Tryz.f117) (argl 0 [.agg #[.int .i64 t__Start1, .int .i64 t__Slots2, .int .i64 t__Backs3, .int .i64 t__Grow4, .int .i64 t__GrowBack5, t__Ins6.val, t__Outs7.val, .int .i64 t__Last8, t__Cells9.val], .agg #[.int .i64 x__Ip10, .int .i64 x__Steps11, x__Stack12.val, x__Back13.val]]) w (retQ orc Tryz.f117.results.toList K)) h)

-- holloway/ir.single
def ir_single_sh (t__Start1 : Int) (t__Slots2 : Int) (t__Backs3 : Int) (t__Grow4 : Int) (t__GrowBack5 : Int) (t__Ins6 : Sl) (t__Outs7 : Sl) (t__Last8 : Int) (t__Cells9 : Sl) (i__Op10 : Int) (i__A11 : Int) (i__B12 : Int) (i__C13 : Int) (i__X14 : Int) (w : World) (K : Value → World → Prop) : Prop :=
 ∀ (b15 : Nat) (w16 : World), b15 = w.heap.size → w16 = World.alloc w (.cells #[.int .i64 t__Start1, .int .i64 t__Slots2, .int .i64 t__Backs3, .int .i64 t__Grow4, .int .i64 t__GrowBack5, t__Ins6.val, t__Outs7.val, .int .i64 t__Last8, t__Cells9.val] T_api_Trace) →
 ∀ (b17 : Nat) (w18 : World), b17 = w16.heap.size → w18 = World.alloc w16 (.cells #[.int .i64 i__Op10, .int .i64 i__A11, .int .i64 i__B12, .int .i64 i__C13, .int .i64 i__X14] T_api_Ins) →
 ∃ n19 : Int, w18.cell? ⟨b17, 0, none⟩ = some (.int .i64 n19) ∧
 brB (n19 == (4 : Int))
 (∃ n20 : Int, w18.cell? ⟨b17, 1, none⟩ = some (.int .i64 n20) ∧
 Calls Tryz.prog fn_ir_two #[.int .i64 n20] w18 fun e21 w22 => ∃ b23 : Bool, e21 = .returned (.bool b23) ∧
 brB b23
 (K (.bool true) w22)
 (∃ n24 : Int, w22.cell? ⟨b17, 1, none⟩ = some (.int .i64 n24) ∧
 Calls Tryz.prog fn_ir_one #[.int .i64 n24] w22 fun e25 w26 => ∃ b27 : Bool, e25 = .returned (.bool b27) ∧
 K (.bool b27) w26))
 (brB (n19 == (2 : Int))
 (∃ n30 : Int, w18.cell? ⟨b17, 1, none⟩ = some (.int .i64 n30) ∧
 ∃ n31 : Int, w18.cell? ⟨b15, 1, none⟩ = some (.int .i64 n31) ∧
 Calls Tryz.prog fn_ir_between #[.int .i64 n30, .int .i64 (0 : Int), .int .i64 (wr (n31 - (1 : Int)))] w18 fun e32 w33 => ∃ b34 : Bool, e32 = .returned (.bool b34) ∧
 K (.bool b34) w33)
 (brB (n19 == (3 : Int))
 (∃ n35 : Int, w18.cell? ⟨b17, 1, none⟩ = some (.int .i64 n35) ∧
 ∃ n36 : Int, w18.cell? ⟨b15, 2, none⟩ = some (.int .i64 n36) ∧
 Calls Tryz.prog fn_ir_between #[.int .i64 n35, .int .i64 (0 : Int), .int .i64 (wr (n36 - (1 : Int)))] w18 fun e37 w38 => ∃ b39 : Bool, e37 = .returned (.bool b39) ∧
 K (.bool b39) w38)
 (∃ n40 : Int, w18.cell? ⟨b17, 0, none⟩ = some (.int .i64 n40) ∧
 Calls Tryz.prog fn_ir_between #[.int .i64 n40, .int .i64 (1 : Int), .int .i64 (12 : Int)] w18 fun e41 w42 => ∃ b43 : Bool, e41 = .returned (.bool b43) ∧
 K (.bool b43) w42)))
def ir_single_an : An := ⟨[], [], []⟩
theorem ir_single_lift {t__Start1 : Int} {t__Slots2 : Int} {t__Backs3 : Int} {t__Grow4 : Int} {t__GrowBack5 : Int} {t__Ins6 : Sl} {t__Outs7 : Sl} {t__Last8 : Int} {t__Cells9 : Sl} {i__Op10 : Int} {i__A11 : Int} {i__B12 : Int} {i__C13 : Int} {i__X14 : Int} {w : World} {K : Value → World → Prop} (h : ir_single_sh t__Start1 t__Slots2 t__Backs3 t__Grow4 t__GrowBack5 t__Ins6 t__Outs7 t__Last8 t__Cells9 i__Op10 i__A11 i__B12 i__C13 i__X14 w K) : Calls Tryz.prog fn_ir_single #[.agg #[.int .i64 t__Start1, .int .i64 t__Slots2, .int .i64 t__Backs3, .int .i64 t__Grow4, .int .i64 t__GrowBack5, t__Ins6.val, t__Outs7.val, .int .i64 t__Last8, t__Cells9.val], .agg #[.int .i64 i__Op10, .int .i64 i__A11, .int .i64 i__B12, .int .i64 i__C13, .int .i64 i__X14]] w fun e w' => ∃ v, e = .returned v ∧ K v w' :=
   lift_calls (A := ir_single_an) (c := bodyOf Tryz.f118) (args := [.agg #[.int .i64 t__Start1, .int .i64 t__Slots2, .int .i64 t__Backs3, .int .i64 t__Grow4, .int .i64 t__GrowBack5, t__Ins6.val, t__Outs7.val, .int .i64 t__Last8, t__Cells9.val], .agg #[.int .i64 i__Op10, .int .i64 i__A11, .int .i64 i__B12, .int .i64 i__C13, .int .i64 i__X14]]) orc orc_wide Tryz.func118 (by kernel_rfl) (by kernel_rfl) (Eq.mp (by kernel_rfl : ir_single_sh t__Start1 t__Slots2 t__Backs3 t__Grow4 t__GrowBack5 t__Ins6 t__Outs7 t__Last8 t__Cells9 i__Op10 i__A11 i__B12 i__C13 i__X14 w K = wpc orc Tryz.f118.ntmps ir_single_an (bodyOf Tryz.f118) (argl 0 [.agg #[.int .i64 t__Start1, .int .i64 t__Slots2, .int .i64 t__Backs3, .int .i64 t__Grow4, .int .i64 t__GrowBack5, t__Ins6.val, t__Outs7.val, .int .i64 t__Last8, t__Cells9.val], .agg #[.int .i64 i__Op10, .int .i64 i__A11, .int .i64 i__B12, .int .i64 i__C13, .int .i64 i__X14]]) w (retQ orc Tryz.f118.results.toList K)) h)

-- holloway/ir.places
def ir_places_sh (t__Start1 : Int) (t__Slots2 : Int) (t__Backs3 : Int) (t__Grow4 : Int) (t__GrowBack5 : Int) (t__Ins6 : Sl) (t__Outs7 : Sl) (t__Last8 : Int) (t__Cells9 : Sl) (l_10 : Sl) (at_11 : Int) (w : World) (K : Value → World → Prop) : Prop :=
 ∀ (b12 : Nat) (w13 : World), b12 = w.heap.size → w13 = World.alloc w (.cells #[.int .i64 t__Start1, .int .i64 t__Slots2, .int .i64 t__Backs3, .int .i64 t__Grow4, .int .i64 t__GrowBack5, t__Ins6.val, t__Outs7.val, .int .i64 t__Last8, t__Cells9.val] T_api_Trace) →
 ∃ (I1 : Int → World → Prop) (μ1 : Int → World → Nat), I1 (0 : Int) w13 ∧ ∀ (n15 : Int) (w14 : World), I1 n15 w14 →
 brB (decide (n15 < (l_10.len : Int)))
 (∃ a16 : Addr, l_10.ptr = some a16 ∧ 0 ≤ n15 ∧ n15 < (l_10.len : Int) ∧
 ∃ n17 : Int, w14.cell? (Addr.add a16 (Int.toNat n15 * 1)) = some (.int .i64 n17) ∧
 ∃ J8 : Bool → World → Prop, (∀ (b25 : Bool) (w24 : World), J8 b25 w24 →
 brB b25
 (K (.bool false) w24)
 (I1 (wr (n15 + (1 : Int))) w24 ∧ μ1 (wr (n15 + (1 : Int))) w24 < μ1 n15 w14)) ∧
 brB (decide (n17 < (0 : Int)))
 (J8 true w14)
 (brB (decide (n17 ≥ at_11))
 (J8 true w14)
 (∃ s18 : Sl, w14.cell? ⟨b12, 5, none⟩ = some (s18.val) ∧
 ∃ a19 : Addr, s18.ptr = some a19 ∧ 0 ≤ n17 ∧ n17 < (s18.len : Int) ∧
 ∃ n20 : Int, w14.cell? (Addr.add a19 (Int.toNat n17 * 5)) = some (.int .i64 n20) ∧
 Calls Tryz.prog fn_ir_Gives #[.int .i64 n20] w14 fun e21 w22 => ∃ b23 : Bool, e21 = .returned (.bool b23) ∧
 J8 (!b23) w22)))
 (K (.bool true) w14)
def ir_places_an : An := ⟨[(2, [(11, .int .i64)])], [], [(5, [(31, .bool)])]⟩
theorem ir_places_lift {t__Start1 : Int} {t__Slots2 : Int} {t__Backs3 : Int} {t__Grow4 : Int} {t__GrowBack5 : Int} {t__Ins6 : Sl} {t__Outs7 : Sl} {t__Last8 : Int} {t__Cells9 : Sl} {l_10 : Sl} {at_11 : Int} {w : World} {K : Value → World → Prop} (h : ir_places_sh t__Start1 t__Slots2 t__Backs3 t__Grow4 t__GrowBack5 t__Ins6 t__Outs7 t__Last8 t__Cells9 l_10 at_11 w K) : Calls Tryz.prog fn_ir_places #[.agg #[.int .i64 t__Start1, .int .i64 t__Slots2, .int .i64 t__Backs3, .int .i64 t__Grow4, .int .i64 t__GrowBack5, t__Ins6.val, t__Outs7.val, .int .i64 t__Last8, t__Cells9.val], l_10.val, .int .i64 at_11] w fun e w' => ∃ v, e = .returned v ∧ K v w' :=
   lift_calls (A := ir_places_an) (c := bodyOf Tryz.f119) (args := [.agg #[.int .i64 t__Start1, .int .i64 t__Slots2, .int .i64 t__Backs3, .int .i64 t__Grow4, .int .i64 t__GrowBack5, t__Ins6.val, t__Outs7.val, .int .i64 t__Last8, t__Cells9.val], l_10.val, .int .i64 at_11]) orc orc_wide Tryz.func119 (by kernel_rfl) (by kernel_rfl) (Eq.mp (by kernel_rfl : ir_places_sh t__Start1 t__Slots2 t__Backs3 t__Grow4 t__GrowBack5 t__Ins6 t__Outs7 t__Last8 t__Cells9 l_10 at_11 w K = wpc orc Tryz.f119.ntmps ir_places_an (bodyOf Tryz.f119) (argl 0 [.agg #[.int .i64 t__Start1, .int .i64 t__Slots2, .int .i64 t__Backs3, .int .i64 t__Grow4, .int .i64 t__GrowBack5, t__Ins6.val, t__Outs7.val, .int .i64 t__Last8, t__Cells9.val], l_10.val, .int .i64 at_11]) w (retQ orc Tryz.f119.results.toList K)) h)

-- holloway/ir.Uses
def ir_Uses_j1 (J4 : World → Prop) (n8 : Int) (b16 : Bool) (w15 : World) (K : Value → World → Prop) : Prop :=
 brB b16
 (J4  w15)
 (brB (n8 == (10 : Int))
 ((brB (n8 == (10 : Int))
 (J4  w15)
 (K (.slice none 0 0) w15)))
 ((brB (n8 == (11 : Int))
 (J4  w15)
 (K (.slice none 0 0) w15))))
def ir_Uses_sh (i__Op1 : Int) (i__A2 : Int) (i__B3 : Int) (i__C4 : Int) (i__X5 : Int) (w : World) (K : Value → World → Prop) : Prop :=
 ∀ (b6 : Nat) (w7 : World), b6 = w.heap.size → w7 = World.alloc w (.cells #[.int .i64 i__Op1, .int .i64 i__A2, .int .i64 i__B3, .int .i64 i__C4, .int .i64 i__X5] T_api_Ins) →
 ∃ n8 : Int, w7.cell? ⟨b6, 0, none⟩ = some (.int .i64 n8) ∧
 ∃ J4 : World → Prop, (∀ (w33 : World), J4  w33 →
 ∃ n34 : Int, w33.cell? ⟨b6, 2, none⟩ = some (.int .i64 n34) ∧
 ∀ (b35 : Nat) (w36 : World), b35 = w33.heap.size → w36 = World.alloc w33 (.cells #[.int .i64 n34] T_int) →
 K (.slice (some ⟨b35, 0, none⟩) 1 1) w36) ∧
 ∃ J5 : World → Prop, (∀ (w28 : World), J5  w28 →
 ∃ n29 : Int, w28.cell? ⟨b6, 2, none⟩ = some (.int .i64 n29) ∧
 ∃ n30 : Int, w28.cell? ⟨b6, 3, none⟩ = some (.int .i64 n30) ∧
 ∀ (b31 : Nat) (w32 : World), b31 = w28.heap.size → w32 = World.alloc w28 (.cells #[.int .i64 n29, .int .i64 n30] T_int) →
 K (.slice (some ⟨b31, 0, none⟩) 2 2) w32) ∧
 brB (n8 == (4 : Int))
 (∃ n21 : Int, w7.cell? ⟨b6, 1, none⟩ = some (.int .i64 n21) ∧
 Calls Tryz.prog fn_ir_two #[.int .i64 n21] w7 fun e22 w23 => ∃ b24 : Bool, e22 = .returned (.bool b24) ∧
 brB (!b24)
 (∃ n25 : Int, w23.cell? ⟨b6, 2, none⟩ = some (.int .i64 n25) ∧
 ∀ (b26 : Nat) (w27 : World), b26 = w23.heap.size → w27 = World.alloc w23 (.cells #[.int .i64 n25] T_int) →
 K (.slice (some ⟨b26, 0, none⟩) 1 1) w27)
 (J5  w23))
 (brB (n8 == (6 : Int))
 ((brB (n8 == (6 : Int))
 (J5  w7)
 (brB (n8 == (5 : Int))
 (ir_Uses_j1 J4 n8 (n8 == (5 : Int)) w7 K)
 (brB (n8 == (7 : Int))
 (ir_Uses_j1 J4 n8 (n8 == (7 : Int)) w7 K)
 (ir_Uses_j1 J4 n8 (n8 == (8 : Int)) w7 K)))))
 ((brB (n8 == (9 : Int))
 (J5  w7)
 (brB (n8 == (5 : Int))
 (ir_Uses_j1 J4 n8 (n8 == (5 : Int)) w7 K)
 (brB (n8 == (7 : Int))
 (ir_Uses_j1 J4 n8 (n8 == (7 : Int)) w7 K)
 (ir_Uses_j1 J4 n8 (n8 == (8 : Int)) w7 K))))))
def ir_Uses_an : An := ⟨[], [], [(12, []), (13, [])]⟩
theorem ir_Uses_lift {i__Op1 : Int} {i__A2 : Int} {i__B3 : Int} {i__C4 : Int} {i__X5 : Int} {w : World} {K : Value → World → Prop} (h : ir_Uses_sh i__Op1 i__A2 i__B3 i__C4 i__X5 w K) : Calls Tryz.prog fn_ir_Uses #[.agg #[.int .i64 i__Op1, .int .i64 i__A2, .int .i64 i__B3, .int .i64 i__C4, .int .i64 i__X5]] w fun e w' => ∃ v, e = .returned v ∧ K v w' :=
   lift_calls (A := ir_Uses_an) (c := bodyOf Tryz.f120) (args := [.agg #[.int .i64 i__Op1, .int .i64 i__A2, .int .i64 i__B3, .int .i64 i__C4, .int .i64 i__X5]]) orc orc_wide Tryz.func120 (by kernel_rfl) (by kernel_rfl) (Eq.mp (by kernel_rfl : ir_Uses_sh i__Op1 i__A2 i__B3 i__C4 i__X5 w K = wpc orc Tryz.f120.ntmps ir_Uses_an (bodyOf Tryz.f120) (argl 0 [.agg #[.int .i64 i__Op1, .int .i64 i__A2, .int .i64 i__B3, .int .i64 i__C4, .int .i64 i__X5]]) w (retQ orc Tryz.f120.results.toList K)) h)

-- holloway/ir.Outs
def ir_Outs_j1 (J5 : World → Prop) (n8 : Int) (b6 : Nat) (b16 : Bool) (w15 : World) (K : Value → World → Prop) : Prop :=
 brB b16
 (J5  w15)
 (brB (n8 == (6 : Int))
 (∃ n25 : Int, w15.cell? ⟨b6, 4, none⟩ = some (.int .i64 n25) ∧
 ∃ n26 : Int, w15.cell? ⟨b6, 1, none⟩ = some (.int .i64 n26) ∧
 ∀ (b27 : Nat) (w28 : World), b27 = w15.heap.size → w28 = World.alloc w15 (.cells #[.int .i64 n25, .int .i64 n26] T_int) →
 K (.slice (some ⟨b27, 0, none⟩) 2 2) w28)
 (K (.slice none 0 0) w15))
def ir_Outs_sh (i__Op1 : Int) (i__A2 : Int) (i__B3 : Int) (i__C4 : Int) (i__X5 : Int) (w : World) (K : Value → World → Prop) : Prop :=
 ∀ (b6 : Nat) (w7 : World), b6 = w.heap.size → w7 = World.alloc w (.cells #[.int .i64 i__Op1, .int .i64 i__A2, .int .i64 i__B3, .int .i64 i__C4, .int .i64 i__X5] T_api_Ins) →
 ∃ n8 : Int, w7.cell? ⟨b6, 0, none⟩ = some (.int .i64 n8) ∧
 ∃ J5 : World → Prop, (∀ (w21 : World), J5  w21 →
 ∃ n22 : Int, w21.cell? ⟨b6, 4, none⟩ = some (.int .i64 n22) ∧
 ∀ (b23 : Nat) (w24 : World), b23 = w21.heap.size → w24 = World.alloc w21 (.cells #[.int .i64 n22] T_int) →
 K (.slice (some ⟨b23, 0, none⟩) 1 1) w24) ∧
 brB (n8 == (4 : Int))
 (∃ J19 : Bool → World → Prop, (∀ (b20 : Bool) (w19 : World), J19 b20 w19 →
 brB b20
 (K (.slice none 0 0) w19)
 (J5  w19)) ∧
 ∃ n17 : Int, w7.cell? ⟨b6, 1, none⟩ = some (.int .i64 n17) ∧
 brB (n17 != (14 : Int))
 (∃ n18 : Int, w7.cell? ⟨b6, 1, none⟩ = some (.int .i64 n18) ∧
 J19 (n18 != (15 : Int)) w7)
 (J19 false w7))
 (brB (n8 == (5 : Int))
 ((brB (n8 == (5 : Int))
 (J5  w7)
 (brB (n8 == (10 : Int))
 (ir_Outs_j1 J5 n8 b6 (n8 == (10 : Int)) w7 K)
 (ir_Outs_j1 J5 n8 b6 (n8 == (11 : Int)) w7 K))))
 (brB (n8 == (7 : Int))
 ((brB (n8 == (7 : Int))
 (J5  w7)
 (brB (n8 == (10 : Int))
 (ir_Outs_j1 J5 n8 b6 (n8 == (10 : Int)) w7 K)
 (ir_Outs_j1 J5 n8 b6 (n8 == (11 : Int)) w7 K))))
 (brB (n8 == (8 : Int))
 ((brB (n8 == (8 : Int))
 (J5  w7)
 (brB (n8 == (10 : Int))
 (ir_Outs_j1 J5 n8 b6 (n8 == (10 : Int)) w7 K)
 (ir_Outs_j1 J5 n8 b6 (n8 == (11 : Int)) w7 K))))
 ((brB (n8 == (9 : Int))
 (J5  w7)
 (brB (n8 == (10 : Int))
 (ir_Outs_j1 J5 n8 b6 (n8 == (10 : Int)) w7 K)
 (ir_Outs_j1 J5 n8 b6 (n8 == (11 : Int)) w7 K)))))))
def ir_Outs_an : An := ⟨[], [], [(11, [(24, .bool)]), (12, [])]⟩
theorem ir_Outs_lift {i__Op1 : Int} {i__A2 : Int} {i__B3 : Int} {i__C4 : Int} {i__X5 : Int} {w : World} {K : Value → World → Prop} (h : ir_Outs_sh i__Op1 i__A2 i__B3 i__C4 i__X5 w K) : Calls Tryz.prog fn_ir_Outs #[.agg #[.int .i64 i__Op1, .int .i64 i__A2, .int .i64 i__B3, .int .i64 i__C4, .int .i64 i__X5]] w fun e w' => ∃ v, e = .returned v ∧ K v w' :=
   lift_calls (A := ir_Outs_an) (c := bodyOf Tryz.f121) (args := [.agg #[.int .i64 i__Op1, .int .i64 i__A2, .int .i64 i__B3, .int .i64 i__C4, .int .i64 i__X5]]) orc orc_wide Tryz.func121 (by kernel_rfl) (by kernel_rfl) (Eq.mp (by kernel_rfl : ir_Outs_sh i__Op1 i__A2 i__B3 i__C4 i__X5 w K = wpc orc Tryz.f121.ntmps ir_Outs_an (bodyOf Tryz.f121) (argl 0 [.agg #[.int .i64 i__Op1, .int .i64 i__A2, .int .i64 i__B3, .int .i64 i__C4, .int .i64 i__X5]]) w (retQ orc Tryz.f121.results.toList K)) h)

-- holloway/ir.Gives
def ir_Gives_j1 (op1 : Int) (b5 : Bool) (w4 : World) (K : Value → World → Prop) : Prop :=
 brB b5
 (K (.bool true) w4)
 (brB (op1 == (4 : Int))
 ((brB (op1 == (4 : Int))
 (K (.bool true) w4)
 (brB (op1 == (12 : Int))
 (K (.bool true) w4)
 (K (.bool false) w4))))
 ((brB (op1 == (5 : Int))
 (K (.bool true) w4)
 (brB (op1 == (12 : Int))
 (K (.bool true) w4)
 (K (.bool false) w4)))))
def ir_Gives_sh (op1 : Int) (w : World) (K : Value → World → Prop) : Prop :=
 brB (op1 == (1 : Int))
 (ir_Gives_j1 op1 (op1 == (1 : Int)) w K)
 (brB (op1 == (2 : Int))
 (ir_Gives_j1 op1 (op1 == (2 : Int)) w K)
 (ir_Gives_j1 op1 (op1 == (3 : Int)) w K))
def ir_Gives_an : An := ⟨[], [], []⟩
theorem ir_Gives_lift {op1 : Int} {w : World} {K : Value → World → Prop} (h : ir_Gives_sh op1 w K) : Calls Tryz.prog fn_ir_Gives #[.int .i64 op1] w fun e w' => ∃ v, e = .returned v ∧ K v w' :=
   lift_calls (A := ir_Gives_an) (c := bodyOf Tryz.f128) (args := [.int .i64 op1]) orc orc_wide Tryz.func128 (by kernel_rfl) (by kernel_rfl) (Eq.mp (by kernel_rfl : ir_Gives_sh op1 w K = wpc orc Tryz.f128.ntmps ir_Gives_an (bodyOf Tryz.f128) (argl 0 [.int .i64 op1]) w (retQ orc Tryz.f128.results.toList K)) h)

-- holloway/ir.between
def ir_between_sh (n_1 : Int) (least2 : Int) (most3 : Int) (w : World) (K : Value → World → Prop) : Prop :=
 brB (decide (n_1 ≥ least2))
 (K (.bool (decide (n_1 ≤ most3))) w)
 (K (.bool false) w)
def ir_between_an : An := ⟨[], [], []⟩
theorem ir_between_lift {n_1 : Int} {least2 : Int} {most3 : Int} {w : World} {K : Value → World → Prop} (h : ir_between_sh n_1 least2 most3 w K) : Calls Tryz.prog fn_ir_between #[.int .i64 n_1, .int .i64 least2, .int .i64 most3] w fun e w' => ∃ v, e = .returned v ∧ K v w' :=
   lift_calls (A := ir_between_an) (c := bodyOf Tryz.f140) (args := [.int .i64 n_1, .int .i64 least2, .int .i64 most3]) orc orc_wide Tryz.func140 (by kernel_rfl) (by kernel_rfl) (Eq.mp (by kernel_rfl : ir_between_sh n_1 least2 most3 w K = wpc orc Tryz.f140.ntmps ir_between_an (bodyOf Tryz.f140) (argl 0 [.int .i64 n_1, .int .i64 least2, .int .i64 most3]) w (retQ orc Tryz.f140.results.toList K)) h)

-- holloway/ir.two
def ir_two_sh (op1 : Int) (w : World) (K : Value → World → Prop) : Prop :=
 Calls Tryz.prog fn_cell_Two #[.int .i64 op1, .int .i64 (1 : Int), .int .i64 (1 : Int)] w fun e2 w3 => ∃ n4 : Int, ∃ b5 : Bool, e2 = .returned (.tuple #[.int .i64 n4, .bool b5]) ∧
 K (.bool b5) w3
def ir_two_an : An := ⟨[], [], []⟩
theorem ir_two_lift {op1 : Int} {w : World} {K : Value → World → Prop} (h : ir_two_sh op1 w K) : Calls Tryz.prog fn_ir_two #[.int .i64 op1] w fun e w' => ∃ v, e = .returned v ∧ K v w' :=
   lift_calls (A := ir_two_an) (c := bodyOf Tryz.f141) (args := [.int .i64 op1]) orc orc_wide Tryz.func141 (by kernel_rfl) (by kernel_rfl) (Eq.mp (by kernel_rfl : ir_two_sh op1 w K = wpc orc Tryz.f141.ntmps ir_two_an (bodyOf Tryz.f141) (argl 0 [.int .i64 op1]) w (retQ orc Tryz.f141.results.toList K)) h)

-- holloway/ir.one
def ir_one_sh (op1 : Int) (w : World) (K : Value → World → Prop) : Prop :=
 Calls Tryz.prog fn_cell_One #[.int .i64 op1, .int .i64 (1 : Int)] w fun e2 w3 => ∃ n4 : Int, ∃ b5 : Bool, e2 = .returned (.tuple #[.int .i64 n4, .bool b5]) ∧
 K (.bool b5) w3
def ir_one_an : An := ⟨[], [], []⟩
theorem ir_one_lift {op1 : Int} {w : World} {K : Value → World → Prop} (h : ir_one_sh op1 w K) : Calls Tryz.prog fn_ir_one #[.int .i64 op1] w fun e w' => ∃ v, e = .returned v ∧ K v w' :=
   lift_calls (A := ir_one_an) (c := bodyOf Tryz.f142) (args := [.int .i64 op1]) orc orc_wide Tryz.func142 (by kernel_rfl) (by kernel_rfl) (Eq.mp (by kernel_rfl : ir_one_sh op1 w K = wpc orc Tryz.f142.ntmps ir_one_an (bodyOf Tryz.f142) (argl 0 [.int .i64 op1]) w (retQ orc Tryz.f142.results.toList K)) h)

end Go.Proofs.YtblmoilneiffgaaGreat

/- Functions of Fold, read without their frames; that each is enough. Printed by a program of mine (wip/lift/gen.py). -/
set_option maxRecDepth 100000
namespace Go.Proofs.YtblmoilneiffgaaGreat
open Go.RowKit

-- (holloway/fold.Map).Ins
def fold_Map_Ins_sh (m_1 : Sl) (i__Op2 : Int) (i__A3 : Int) (i__B4 : Int) (i__C5 : Int) (i__X6 : Int) (w : World) (K : Value → World → Prop) : Prop :=
 ∀ (b7 : Nat) (w8 : World), b7 = w.heap.size → w8 = World.alloc w (.cells #[.int .i64 i__Op2, .int .i64 i__A3, .int .i64 i__B4, .int .i64 i__C5, .int .i64 i__X6] T_api_Ins) →
 ∀ (b9 : Nat) (w10 : World), b9 = w8.heap.size → w10 = World.alloc w8 (.cells #[.int .i64 (0 : Int), .int .i64 (0 : Int), .int .i64 (0 : Int), .int .i64 (0 : Int), .int .i64 (0 : Int)] T_api_Ins) →
 ∃ J2 : World → Prop, (∀ (w30 : World), J2  w30 →
 ∃ n_Op31 : Int, ∃ n_A32 : Int, ∃ n_B33 : Int, ∃ n_C34 : Int, ∃ n_X35 : Int, w30.cell? ⟨b7, 0, none⟩ = some (.int .i64 n_Op31) ∧ w30.cell? ⟨b7, 1, none⟩ = some (.int .i64 n_A32) ∧ w30.cell? ⟨b7, 2, none⟩ = some (.int .i64 n_B33) ∧ w30.cell? ⟨b7, 3, none⟩ = some (.int .i64 n_C34) ∧ w30.cell? ⟨b7, 4, none⟩ = some (.int .i64 n_X35) ∧
 wrOk w30 ⟨b9, 0, none⟩ 5 ∧ ∀ w36 : World, w36 = stW w30 ⟨b9, 0, none⟩ 0 [.int .i64 n_Op31, .int .i64 n_A32, .int .i64 n_B33, .int .i64 n_C34, .int .i64 n_X35] →
 ∃ r_Op37 : Int, ∃ r_A38 : Int, ∃ r_B39 : Int, ∃ r_C40 : Int, ∃ r_X41 : Int, w36.cell? ⟨b9, 0, none⟩ = some (.int .i64 r_Op37) ∧ w36.cell? ⟨b9, 1, none⟩ = some (.int .i64 r_A38) ∧ w36.cell? ⟨b9, 2, none⟩ = some (.int .i64 r_B39) ∧ w36.cell? ⟨b9, 3, none⟩ = some (.int .i64 r_C40) ∧ w36.cell? ⟨b9, 4, none⟩ = some (.int .i64 r_X41) ∧
 K (.agg #[.int .i64 r_Op37, .int .i64 r_A38, .int .i64 r_B39, .int .i64 r_C40, .int .i64 r_X41]) w36) ∧
 ∃ n_Op11 : Int, ∃ n_A12 : Int, ∃ n_B13 : Int, ∃ n_C14 : Int, ∃ n_X15 : Int, w10.cell? ⟨b7, 0, none⟩ = some (.int .i64 n_Op11) ∧ w10.cell? ⟨b7, 1, none⟩ = some (.int .i64 n_A12) ∧ w10.cell? ⟨b7, 2, none⟩ = some (.int .i64 n_B13) ∧ w10.cell? ⟨b7, 3, none⟩ = some (.int .i64 n_C14) ∧ w10.cell? ⟨b7, 4, none⟩ = some (.int .i64 n_X15) ∧
 Calls Tryz.prog fn_ir_Uses #[.agg #[.int .i64 n_Op11, .int .i64 n_A12, .int .i64 n_B13, .int .i64 n_C14, .int .i64 n_X15]] w10 fun e16 w17 => ∃ s18 : Sl, e16 = .returned (s18.val) ∧
 ∃ J4 : World → Prop, (∀ (w24 : World), J4  w24 →
 ∃ n25 : Int, w24.cell? ⟨b7, 2, none⟩ = some (.int .i64 n25) ∧
 Calls Tryz.prog fn_fold_Map_Of #[m_1.val, .int .i64 n25] w24 fun e26 w27 => ∃ n28 : Int, e26 = .returned (.int .i64 n28) ∧
 wrOk w27 ⟨b7, 2, none⟩ 1 ∧ ∀ w29 : World, w29 = stW w27 ⟨b7, 2, none⟩ 0 [.int .i64 n28] →
 J2  w29) ∧
 brB ((s18.len : Int) == (2 : Int))
 (∃ n19 : Int, w17.cell? ⟨b7, 3, none⟩ = some (.int .i64 n19) ∧
 Calls Tryz.prog fn_fold_Map_Of #[m_1.val, .int .i64 n19] w17 fun e20 w21 => ∃ n22 : Int, e20 = .returned (.int .i64 n22) ∧
 wrOk w21 ⟨b7, 3, none⟩ 1 ∧ ∀ w23 : World, w23 = stW w21 ⟨b7, 3, none⟩ 0 [.int .i64 n22] →
 J4  w23)
 (brB ((s18.len : Int) == (1 : Int))
 (J4  w17)
 (J2  w17))
def fold_Map_Ins_an : An := ⟨[], [], [(5, []), (6, [])]⟩
theorem fold_Map_Ins_lift {m_1 : Sl} {i__Op2 : Int} {i__A3 : Int} {i__B4 : Int} {i__C5 : Int} {i__X6 : Int} {w : World} {K : Value → World → Prop} (h : fold_Map_Ins_sh m_1 i__Op2 i__A3 i__B4 i__C5 i__X6 w K) : Calls Tryz.prog fn_fold_Map_Ins #[m_1.val, .agg #[.int .i64 i__Op2, .int .i64 i__A3, .int .i64 i__B4, .int .i64 i__C5, .int .i64 i__X6]] w fun e w' => ∃ v, e = .returned v ∧ K v w' :=
   lift_calls (A := fold_Map_Ins_an) (c := bodyOf Tryz.f85) (args := [m_1.val, .agg #[.int .i64 i__Op2, .int .i64 i__A3, .int .i64 i__B4, .int .i64 i__C5, .int .i64 i__X6]]) orc orc_wide Tryz.func85 (by kernel_rfl) (by kernel_rfl) (Eq.mp (by kernel_rfl : fold_Map_Ins_sh m_1 i__Op2 i__A3 i__B4 i__C5 i__X6 w K = wpc orc Tryz.f85.ntmps fold_Map_Ins_an (bodyOf Tryz.f85) (argl 0 [m_1.val, .agg #[.int .i64 i__Op2, .int .i64 i__A3, .int .i64 i__B4, .int .i64 i__C5, .int .i64 i__X6]]) w (retQ orc Tryz.f85.results.toList K)) h)

-- (holloway/fold.Map).Outs
def fold_Map_Outs_sh (m_1 : Sl) (l_2 : Sl) (w : World) (K : Value → World → Prop) : Prop :=
 ∃ (I1 : Sl → Int → World → Prop) (μ1 : Sl → Int → World → Nat), I1 (⟨none, 0, 0⟩ : Sl) (0 : Int) w ∧ ∀ (out15 : Sl) (n4 : Int) (w3 : World), I1 out15 n4 w3 →
 brB (decide (n4 < (l_2.len : Int)))
 (∃ a5 : Addr, l_2.ptr = some a5 ∧ 0 ≤ n4 ∧ n4 < (l_2.len : Int) ∧
 ∃ n_Ip6 : Int, ∃ n_Steps7 : Int, ∃ s_Stack8 : Sl, ∃ s_Back9 : Sl, w3.cell? (Addr.add a5 (Int.toNat n4 * 4)) = some (.int .i64 n_Ip6) ∧ w3.cell? (Addr.add (Addr.add a5 (Int.toNat n4 * 4)) 1) = some (.int .i64 n_Steps7) ∧ w3.cell? (Addr.add (Addr.add a5 (Int.toNat n4 * 4)) 2) = some (s_Stack8.val) ∧ w3.cell? (Addr.add (Addr.add a5 (Int.toNat n4 * 4)) 3) = some (s_Back9.val) ∧
 ∀ (b10 : Nat) (w11 : World), b10 = w3.heap.size → w11 = World.alloc w3 (.cells #[.int .i64 (0 : Int), .int .i64 (0 : Int), .slice none 0 0, .slice none 0 0] T_api_Out) →
 wrOk w11 ⟨b10, 0, none⟩ 4 ∧ ∀ w12 : World, w12 = stW w11 ⟨b10, 0, none⟩ 0 [.int .i64 n_Ip6, .int .i64 n_Steps7, s_Stack8.val, s_Back9.val] →
 ∀ w13 : World, w13 = World.drew w12 →
 ∃ S14 : World → Prop, S14 w13 ∧
 ∃ n16 : Int, held S14 ⟨b10, 0, none⟩ (.int .i64 n16) ∧
 ∃ n17 : Int, held S14 ⟨b10, 1, none⟩ (.int .i64 n17) ∧
 ∃ s18 : Sl, held S14 ⟨b10, 2, none⟩ (s18.val) ∧
 ∃ s19 : Sl, held S14 ⟨b10, 3, none⟩ (s19.val) ∧
 Calls Tryz.prog fn_fold_Map_All #[m_1.val, s18.val] w13 fun e20 w21 => ∃ s22 : Sl, e20 = .returned (s22.val) ∧
 S14 w21 ∧
 Calls Tryz.prog fn_fold_Map_All #[m_1.val, s19.val] w21 fun e23 w24 => ∃ s25 : Sl, e23 = .returned (s25.val) ∧
 S14 w24 ∧
 S14 w24 ∧
 ∀ (b26 : Nat) (w27 : World), b26 = w24.heap.size → w27 = World.alloc w24 (.cells #[.int .i64 n16, .int .i64 n17, s22.val, s25.val] T_api_Out) →
 S14 w27 ∧
 ∃ s28 : Sl, ∃ w29 : World, (Builtin.append_ #[T_sl_api_Out, T_sl_api_Out] T_sl_api_Out #[out15.val, .slice (some ⟨b26, 0, none⟩) 1 1]).run Tryz.prog w27 = .ok (s28.val) w29 ∧
 I1 s28 (wr (n4 + (1 : Int))) w29 ∧ μ1 s28 (wr (n4 + (1 : Int))) w29 < μ1 out15 n4 w3)
 (K (out15.val) w3)
def fold_Map_Outs_an : An := ⟨[(3, [(5, .sl), (10, .int .i64)])], [(5, (15, .st 0 (.st 1 (.st 2 (.st 3 (.st 4 (.st 5 (.st 6 (.st 7 (.st 9 (.st 10 (.st 11 (.ef 8 (.ef 12 (.ef 13 (.ef 14 .done)))))))))))))), 1))], []⟩
theorem fold_Map_Outs_lift {m_1 : Sl} {l_2 : Sl} {w : World} {K : Value → World → Prop} (h : fold_Map_Outs_sh m_1 l_2 w K) : Calls Tryz.prog fn_fold_Map_Outs #[m_1.val, l_2.val] w fun e w' => ∃ v, e = .returned v ∧ K v w' :=
   lift_calls (A := fold_Map_Outs_an) (c := bodyOf Tryz.f87) (args := [m_1.val, l_2.val]) orc orc_wide Tryz.func87 (by kernel_rfl) (by kernel_rfl) (Eq.mp (by kernel_rfl : fold_Map_Outs_sh m_1 l_2 w K = wpc orc Tryz.f87.ntmps fold_Map_Outs_an (bodyOf Tryz.f87) (argl 0 [m_1.val, l_2.val]) w (retQ orc Tryz.f87.results.toList K)) h)

-- (holloway/fold.Map).Of
def fold_Map_Of_sh (m_1 : Sl) (p_2 : Int) (w : World) (K : Value → World → Prop) : Prop :=
 ∃ J3 : Bool → World → Prop, (∀ (b4 : Bool) (w3 : World), J3 b4 w3 →
 brB b4
 (K (.int .i64 p_2) w3)
 (∃ a5 : Addr, m_1.ptr = some a5 ∧ 0 ≤ p_2 ∧ p_2 < (m_1.len : Int) ∧
 ∃ n6 : Int, w3.cell? (Addr.add a5 (Int.toNat p_2 * 1)) = some (.int .i64 n6) ∧
 K (.int .i64 n6) w3)) ∧
 brB (decide (p_2 < (0 : Int)))
 (J3 true w)
 (J3 (decide (p_2 ≥ (m_1.len : Int))) w)
def fold_Map_Of_an : An := ⟨[], [], [(2, [(12, .bool)])]⟩
theorem fold_Map_Of_lift {m_1 : Sl} {p_2 : Int} {w : World} {K : Value → World → Prop} (h : fold_Map_Of_sh m_1 p_2 w K) : Calls Tryz.prog fn_fold_Map_Of #[m_1.val, .int .i64 p_2] w fun e w' => ∃ v, e = .returned v ∧ K v w' :=
   lift_calls (A := fold_Map_Of_an) (c := bodyOf Tryz.f88) (args := [m_1.val, .int .i64 p_2]) orc orc_wide Tryz.func88 (by kernel_rfl) (by kernel_rfl) (Eq.mp (by kernel_rfl : fold_Map_Of_sh m_1 p_2 w K = wpc orc Tryz.f88.ntmps fold_Map_Of_an (bodyOf Tryz.f88) (argl 0 [m_1.val, .int .i64 p_2]) w (retQ orc Tryz.f88.results.toList K)) h)

-- (holloway/fold.Map).All
def fold_Map_All_sh (m_1 : Sl) (l_2 : Sl) (w : World) (K : Value → World → Prop) : Prop :=
 ∃ (I1 : Sl → Int → World → Prop) (μ1 : Sl → Int → World → Nat), I1 (⟨none, 0, 0⟩ : Sl) (0 : Int) w ∧ ∀ (out7 : Sl) (n4 : Int) (w3 : World), I1 out7 n4 w3 →
 brB (decide (n4 < (l_2.len : Int)))
 (∃ a5 : Addr, l_2.ptr = some a5 ∧ 0 ≤ n4 ∧ n4 < (l_2.len : Int) ∧
 ∃ n6 : Int, w3.cell? (Addr.add a5 (Int.toNat n4 * 1)) = some (.int .i64 n6) ∧
 Calls Tryz.prog fn_fold_Map_Of #[m_1.val, .int .i64 n6] w3 fun e8 w9 => ∃ n10 : Int, e8 = .returned (.int .i64 n10) ∧
 ∀ (b11 : Nat) (w12 : World), b11 = w9.heap.size → w12 = World.alloc w9 (.cells #[.int .i64 n10] T_int) →
 ∃ s13 : Sl, ∃ w14 : World, (Builtin.append_ #[T_sl_int, T_sl_int] T_sl_int #[out7.val, .slice (some ⟨b11, 0, none⟩) 1 1]).run Tryz.prog w12 = .ok (s13.val) w14 ∧
 I1 s13 (wr (n4 + (1 : Int))) w14 ∧ μ1 s13 (wr (n4 + (1 : Int))) w14 < μ1 out7 n4 w3)
 (K (out7.val) w3)
def fold_Map_All_an : An := ⟨[(3, [(5, .sl), (10, .int .i64)])], [], []⟩
theorem fold_Map_All_lift {m_1 : Sl} {l_2 : Sl} {w : World} {K : Value → World → Prop} (h : fold_Map_All_sh m_1 l_2 w K) : Calls Tryz.prog fn_fold_Map_All #[m_1.val, l_2.val] w fun e w' => ∃ v, e = .returned v ∧ K v w' :=
   lift_calls (A := fold_Map_All_an) (c := bodyOf Tryz.f124) (args := [m_1.val, l_2.val]) orc orc_wide Tryz.func124 (by kernel_rfl) (by kernel_rfl) (Eq.mp (by kernel_rfl : fold_Map_All_sh m_1 l_2 w K = wpc orc Tryz.f124.ntmps fold_Map_All_an (bodyOf Tryz.f124) (argl 0 [m_1.val, l_2.val]) w (retQ orc Tryz.f124.results.toList K)) h)

end Go.Proofs.YtblmoilneiffgaaGreat

/- Functions of Prune, read without their frames; that each is enough. Printed by a program of mine (wip/lift/gen.py). -/
set_option maxRecDepth 100000
namespace Go.Proofs.YtblmoilneiffgaaGreat
open Go.RowKit

-- holloway/prune.Do
def prune_Do_sh (t__Start1 : Int) (t__Slots2 : Int) (t__Backs3 : Int) (t__Grow4 : Int) (t__GrowBack5 : Int) (t__Ins6 : Sl) (t__Outs7 : Sl) (t__Last8 : Int) (t__Cells9 : Sl) (w : World) (K : Value → World → Prop) : Prop :=
 ∀ (b10 : Nat) (w11 : World), b10 = w.heap.size → w11 = World.alloc w (.cells #[.int .i64 t__Start1, .int .i64 t__Slots2, .int .i64 t__Backs3, .int .i64 t__Grow4, .int .i64 t__GrowBack5, t__Ins6.val, t__Outs7.val, .int .i64 t__Last8, t__Cells9.val] T_api_Trace) →
 ∀ (b12 : Nat) (w13 : World), b12 = w11.heap.size → w13 = World.alloc w11 (.cells #[.int .i64 (0 : Int), .int .i64 (0 : Int), .int .i64 (0 : Int), .int .i64 (0 : Int), .int .i64 (0 : Int), .slice none 0 0, .slice none 0 0, .int .i64 (0 : Int), .slice none 0 0] T_api_Trace) →
 ∃ n_Start14 : Int, ∃ n_Slots15 : Int, ∃ n_Backs16 : Int, ∃ n_Grow17 : Int, ∃ n_GrowBack18 : Int, ∃ s_Ins19 : Sl, ∃ s_Outs20 : Sl, ∃ n_Last21 : Int, ∃ s_Cells22 : Sl, w13.cell? ⟨b10, 0, none⟩ = some (.int .i64 n_Start14) ∧ w13.cell? ⟨b10, 1, none⟩ = some (.int .i64 n_Slots15) ∧ w13.cell? ⟨b10, 2, none⟩ = some (.int .i64 n_Backs16) ∧ w13.cell? ⟨b10, 3, none⟩ = some (.int .i64 n_Grow17) ∧ w13.cell? ⟨b10, 4, none⟩ = some (.int .i64 n_GrowBack18) ∧ w13.cell? ⟨b10, 5, none⟩ = some (s_Ins19.val) ∧ w13.cell? ⟨b10, 6, none⟩ = some (s_Outs20.val) ∧ w13.cell? ⟨b10, 7, none⟩ = some (.int .i64 n_Last21) ∧ w13.cell? ⟨b10, 8, none⟩ = some (s_Cells22.val) ∧
 Calls Tryz.prog fn_ir_Right #[.agg #[.int .i64 n_Start14, .int .i64 n_Slots15, .int .i64 n_Backs16, .int .i64 n_Grow17, .int .i64 n_GrowBack18, s_Ins19.val, s_Outs20.val, .int .i64 n_Last21, s_Cells22.val]] w13 fun e23 w24 => ∃ b25 : Bool, e23 = .returned (.bool b25) ∧
 brB (!b25)
 (∃ n_Start26 : Int, ∃ n_Slots27 : Int, ∃ n_Backs28 : Int, ∃ n_Grow29 : Int, ∃ n_GrowBack30 : Int, ∃ s_Ins31 : Sl, ∃ s_Outs32 : Sl, ∃ n_Last33 : Int, ∃ s_Cells34 : Sl, w24.cell? ⟨b10, 0, none⟩ = some (.int .i64 n_Start26) ∧ w24.cell? ⟨b10, 1, none⟩ = some (.int .i64 n_Slots27) ∧ w24.cell? ⟨b10, 2, none⟩ = some (.int .i64 n_Backs28) ∧ w24.cell? ⟨b10, 3, none⟩ = some (.int .i64 n_Grow29) ∧ w24.cell? ⟨b10, 4, none⟩ = some (.int .i64 n_GrowBack30) ∧ w24.cell? ⟨b10, 5, none⟩ = some (s_Ins31.val) ∧ w24.cell? ⟨b10, 6, none⟩ = some (s_Outs32.val) ∧ w24.cell? ⟨b10, 7, none⟩ = some (.int .i64 n_Last33) ∧ w24.cell? ⟨b10, 8, none⟩ = some (s_Cells34.val) ∧
 wrOk w24 ⟨b12, 0, none⟩ 9 ∧ ∀ w35 : World, w35 = stW w24 ⟨b12, 0, none⟩ 0 [.int .i64 n_Start26, .int .i64 n_Slots27, .int .i64 n_Backs28, .int .i64 n_Grow29, .int .i64 n_GrowBack30, s_Ins31.val, s_Outs32.val, .int .i64 n_Last33, s_Cells34.val] →
 ∃ r_Start36 : Int, ∃ r_Slots37 : Int, ∃ r_Backs38 : Int, ∃ r_Grow39 : Int, ∃ r_GrowBack40 : Int, ∃ r_Ins41 : Sl, ∃ r_Outs42 : Sl, ∃ r_Last43 : Int, ∃ r_Cells44 : Sl, w35.cell? ⟨b12, 0, none⟩ = some (.int .i64 r_Start36) ∧ w35.cell? ⟨b12, 1, none⟩ = some (.int .i64 r_Slots37) ∧ w35.cell? ⟨b12, 2, none⟩ = some (.int .i64 r_Backs38) ∧ w35.cell? ⟨b12, 3, none⟩ = some (.int .i64 r_Grow39) ∧ w35.cell? ⟨b12, 4, none⟩ = some (.int .i64 r_GrowBack40) ∧ w35.cell? ⟨b12, 5, none⟩ = some (r_Ins41.val) ∧ w35.cell? ⟨b12, 6, none⟩ = some (r_Outs42.val) ∧ w35.cell? ⟨b12, 7, none⟩ = some (.int .i64 r_Last43) ∧ w35.cell? ⟨b12, 8, none⟩ = some (r_Cells44.val) ∧
 K (.agg #[.int .i64 r_Start36, .int .i64 r_Slots37, .int .i64 r_Backs38, .int .i64 r_Grow39, .int .i64 r_GrowBack40, r_Ins41.val, r_Outs42.val, .int .i64 r_Last43, r_Cells44.val]) w35)
 (∃ n_Start45 : Int, ∃ n_Slots46 : Int, ∃ n_Backs47 : Int, ∃ n_Grow48 : Int, ∃ n_GrowBack49 : Int, ∃ s_Ins50 : Sl, ∃ s_Outs51 : Sl, ∃ n_Last52 : Int, ∃ s_Cells53 : Sl, w24.cell? ⟨b10, 0, none⟩ = some (.int .i64 n_Start45) ∧ w24.cell? ⟨b10, 1, none⟩ = some (.int .i64 n_Slots46) ∧ w24.cell? ⟨b10, 2, none⟩ = some (.int .i64 n_Backs47) ∧ w24.cell? ⟨b10, 3, none⟩ = some (.int .i64 n_Grow48) ∧ w24.cell? ⟨b10, 4, none⟩ = some (.int .i64 n_GrowBack49) ∧ w24.cell? ⟨b10, 5, none⟩ = some (s_Ins50.val) ∧ w24.cell? ⟨b10, 6, none⟩ = some (s_Outs51.val) ∧ w24.cell? ⟨b10, 7, none⟩ = some (.int .i64 n_Last52) ∧ w24.cell? ⟨b10, 8, none⟩ = some (s_Cells53.val) ∧
 Calls Tryz.prog fn_prune_begin #[.agg #[.int .i64 n_Start45, .int .i64 n_Slots46, .int .i64 n_Backs47, .int .i64 n_Grow48, .int .i64 n_GrowBack49, s_Ins50.val, s_Outs51.val, .int .i64 n_Last52, s_Cells53.val]] w24 fun e54 w55 => ∃ p56 : Option Addr, e54 = .returned (.pointer p56) ∧
 ∃ s57 : Sl, w55.cell? ⟨b10, 5, none⟩ = some (s57.val) ∧
 ∃ s58 : Sl, ∃ w59 : World, (Instr.makeSlice T_sl_bool (.int .i64 (s57.len : Int)) (.int .i64 (s57.len : Int))).run Tryz.prog w55 = .ok s58.val w59 ∧
 ∃ s60 : Sl, w59.cell? ⟨b10, 5, none⟩ = some (s60.val) ∧
 ∃ (I1 : Int → World → Prop) (μ1 : Int → World → Nat), I1 (wr ((s60.len : Int) - (1 : Int))) w59 ∧ ∀ (at62 : Int) (w61 : World), I1 at62 w61 →
 brB (decide (at62 ≥ (0 : Int)))
 (∃ J11 : World → Prop, (∀ (w93 : World), J11  w93 →
 I1 (wr (at62 - (1 : Int))) w93 ∧ μ1 (wr (at62 - (1 : Int))) w93 < μ1 at62 w61) ∧
 ∃ J12 : World → Prop, (∀ (w81 : World), J12  w81 →
 ∃ a82 : Addr, s58.ptr = some a82 ∧ 0 ≤ at62 ∧ at62 < (s58.len : Int) ∧
 ∃ b83 : Bool, w81.cell? (Addr.add a82 (Int.toNat at62 * 1)) = some (.bool b83) ∧
 brB b83
 (∃ s84 : Sl, w81.cell? ⟨b10, 5, none⟩ = some (s84.val) ∧
 ∃ a85 : Addr, s84.ptr = some a85 ∧ 0 ≤ at62 ∧ at62 < (s84.len : Int) ∧
 ∃ n_Op86 : Int, ∃ n_A87 : Int, ∃ n_B88 : Int, ∃ n_C89 : Int, ∃ n_X90 : Int, w81.cell? (Addr.add a85 (Int.toNat at62 * 5)) = some (.int .i64 n_Op86) ∧ w81.cell? (Addr.add (Addr.add a85 (Int.toNat at62 * 5)) 1) = some (.int .i64 n_A87) ∧ w81.cell? (Addr.add (Addr.add a85 (Int.toNat at62 * 5)) 2) = some (.int .i64 n_B88) ∧ w81.cell? (Addr.add (Addr.add a85 (Int.toNat at62 * 5)) 3) = some (.int .i64 n_C89) ∧ w81.cell? (Addr.add (Addr.add a85 (Int.toNat at62 * 5)) 4) = some (.int .i64 n_X90) ∧
 Calls Tryz.prog fn_prune_need_all #[.pointer p56, .agg #[.int .i64 n_Op86, .int .i64 n_A87, .int .i64 n_B88, .int .i64 n_C89, .int .i64 n_X90]] w81 fun e91 w92 => e91 = .returned (.tuple #[]) ∧
 J11  w92)
 (J11  w81)) ∧
 nn p56 fun a63 =>
 ∃ s64 : Sl, w61.cell? (Addr.add a63 9) = some (s64.val) ∧
 ∃ a65 : Addr, s64.ptr = some a65 ∧ 0 ≤ at62 ∧ at62 < (s64.len : Int) ∧
 ∃ b66 : Bool, w61.cell? (Addr.add a65 (Int.toNat at62 * 1)) = some (.bool b66) ∧
 brB b66
 (∃ a67 : Addr, s58.ptr = some a67 ∧ 0 ≤ at62 ∧ at62 < (s58.len : Int) ∧
 wrOk w61 (Addr.add a67 (Int.toNat at62 * 1)) 1 ∧ ∀ w68 : World, w68 = stW w61 (Addr.add a67 (Int.toNat at62 * 1)) 0 [.bool true] →
 J12  w68)
 (∃ s69 : Sl, w61.cell? ⟨b10, 5, none⟩ = some (s69.val) ∧
 ∃ a70 : Addr, s69.ptr = some a70 ∧ 0 ≤ at62 ∧ at62 < (s69.len : Int) ∧
 ∃ n_Op71 : Int, ∃ n_A72 : Int, ∃ n_B73 : Int, ∃ n_C74 : Int, ∃ n_X75 : Int, w61.cell? (Addr.add a70 (Int.toNat at62 * 5)) = some (.int .i64 n_Op71) ∧ w61.cell? (Addr.add (Addr.add a70 (Int.toNat at62 * 5)) 1) = some (.int .i64 n_A72) ∧ w61.cell? (Addr.add (Addr.add a70 (Int.toNat at62 * 5)) 2) = some (.int .i64 n_B73) ∧ w61.cell? (Addr.add (Addr.add a70 (Int.toNat at62 * 5)) 3) = some (.int .i64 n_C74) ∧ w61.cell? (Addr.add (Addr.add a70 (Int.toNat at62 * 5)) 4) = some (.int .i64 n_X75) ∧
 Calls Tryz.prog fn_prune_pure #[.agg #[.int .i64 n_Op71, .int .i64 n_A72, .int .i64 n_B73, .int .i64 n_C74, .int .i64 n_X75]] w61 fun e76 w77 => ∃ b78 : Bool, e76 = .returned (.bool b78) ∧
 ∃ a79 : Addr, s58.ptr = some a79 ∧ 0 ≤ at62 ∧ at62 < (s58.len : Int) ∧
 wrOk w77 (Addr.add a79 (Int.toNat at62 * 1)) 1 ∧ ∀ w80 : World, w80 = stW w77 (Addr.add a79 (Int.toNat at62 * 1)) 0 [.bool (!b78)] →
 J12  w80))
 (∃ s94 : Sl, w61.cell? ⟨b10, 6, none⟩ = some (s94.val) ∧
 ∃ (I2 : Sl → Sl → Int → World → Prop) (μ2 : Sl → Sl → Int → World → Nat), I2 (⟨none, 0, 0⟩ : Sl) (⟨none, 0, 0⟩ : Sl) (0 : Int) w61 ∧ ∀ (exits105 : Sl) (outs106 : Sl) (n96 : Int) (w95 : World), I2 exits105 outs106 n96 w95 →
 brB (decide (n96 < (s94.len : Int)))
 (∃ J21 : Sl → Sl → World → Prop, (∀ (exits210 : Sl) (outs211 : Sl) (w123 : World), J21 exits210 outs211 w123 →
 I2 exits210 outs211 (wr (n96 + (1 : Int))) w123 ∧ μ2 exits210 outs211 (wr (n96 + (1 : Int))) w123 < μ2 exits105 outs106 n96 w95) ∧
 ∃ a97 : Addr, s94.ptr = some a97 ∧ 0 ≤ n96 ∧ n96 < (s94.len : Int) ∧
 ∃ n_Ip98 : Int, ∃ n_Steps99 : Int, ∃ s_Stack100 : Sl, ∃ s_Back101 : Sl, w95.cell? (Addr.add a97 (Int.toNat n96 * 4)) = some (.int .i64 n_Ip98) ∧ w95.cell? (Addr.add (Addr.add a97 (Int.toNat n96 * 4)) 1) = some (.int .i64 n_Steps99) ∧ w95.cell? (Addr.add (Addr.add a97 (Int.toNat n96 * 4)) 2) = some (s_Stack100.val) ∧ w95.cell? (Addr.add (Addr.add a97 (Int.toNat n96 * 4)) 3) = some (s_Back101.val) ∧
 ∀ (b102 : Nat) (w103 : World), b102 = w95.heap.size → w103 = World.alloc w95 (.cells #[.int .i64 (0 : Int), .int .i64 (0 : Int), .slice none 0 0, .slice none 0 0] T_api_Out) →
 wrOk w103 ⟨b102, 0, none⟩ 4 ∧ ∀ w104 : World, w104 = stW w103 ⟨b102, 0, none⟩ 0 [.int .i64 n_Ip98, .int .i64 n_Steps99, s_Stack100.val, s_Back101.val] →
 ∀ (b107 : Nat) (w108 : World), b107 = w104.heap.size → w108 = World.alloc w104 (.cells #[.int .i64 (outs106.len : Int)] T_int) →
 ∃ s109 : Sl, ∃ w110 : World, (Builtin.append_ #[T_fold_Map, T_fold_Map] T_fold_Map #[exits105.val, .slice (some ⟨b107, 0, none⟩) 1 1]).run Tryz.prog w108 = .ok (s109.val) w110 ∧
 nn p56 fun a111 =>
 ∃ s112 : Sl, w110.cell? (Addr.add a111 10) = some (s112.val) ∧
 ∃ a113 : Addr, s112.ptr = some a113 ∧ 0 ≤ n96 ∧ n96 < (s112.len : Int) ∧
 ∃ b114 : Bool, w110.cell? (Addr.add a113 (Int.toNat n96 * 1)) = some (.bool b114) ∧
 brB b114
 (∃ n_Ip115 : Int, ∃ n_Steps116 : Int, ∃ s_Stack117 : Sl, ∃ s_Back118 : Sl, w110.cell? ⟨b102, 0, none⟩ = some (.int .i64 n_Ip115) ∧ w110.cell? ⟨b102, 1, none⟩ = some (.int .i64 n_Steps116) ∧ w110.cell? ⟨b102, 2, none⟩ = some (s_Stack117.val) ∧ w110.cell? ⟨b102, 3, none⟩ = some (s_Back118.val) ∧
 ∀ (b119 : Nat) (w120 : World), b119 = w110.heap.size → w120 = World.alloc w110 (.cells #[.int .i64 n_Ip115, .int .i64 n_Steps116, s_Stack117.val, s_Back118.val] T_api_Out) →
 ∃ s121 : Sl, ∃ w122 : World, (Builtin.append_ #[T_sl_api_Out, T_sl_api_Out] T_sl_api_Out #[outs106.val, .slice (some ⟨b119, 0, none⟩) 1 1]).run Tryz.prog w120 = .ok (s121.val) w122 ∧
 J21 s109 s121 w122)
 (J21 s109 outs106 w110))
 (∃ s124 : Sl, w95.cell? ⟨b10, 5, none⟩ = some (s124.val) ∧
 ∃ (I3 : Sl → Sl → Int → World → Prop) (μ3 : Sl → Sl → Int → World → Nat), I3 (⟨none, 0, 0⟩ : Sl) (⟨none, 0, 0⟩ : Sl) (0 : Int) w95 ∧ ∀ (m136 : Sl) (l150 : Sl) (n126 : Int) (w125 : World), I3 m136 l150 n126 w125 →
 brB (decide (n126 < (s124.len : Int)))
 (∃ J29 : Sl → Sl → World → Prop, (∀ (m212 : Sl) (l213 : Sl) (w173 : World), J29 m212 l213 w173 →
 I3 m212 l213 (wr (n126 + (1 : Int))) w173 ∧ μ3 m212 l213 (wr (n126 + (1 : Int))) w173 < μ3 m136 l150 n126 w125) ∧
 ∃ a127 : Addr, s124.ptr = some a127 ∧ 0 ≤ n126 ∧ n126 < (s124.len : Int) ∧
 ∃ n_Op128 : Int, ∃ n_A129 : Int, ∃ n_B130 : Int, ∃ n_C131 : Int, ∃ n_X132 : Int, w125.cell? (Addr.add a127 (Int.toNat n126 * 5)) = some (.int .i64 n_Op128) ∧ w125.cell? (Addr.add (Addr.add a127 (Int.toNat n126 * 5)) 1) = some (.int .i64 n_A129) ∧ w125.cell? (Addr.add (Addr.add a127 (Int.toNat n126 * 5)) 2) = some (.int .i64 n_B130) ∧ w125.cell? (Addr.add (Addr.add a127 (Int.toNat n126 * 5)) 3) = some (.int .i64 n_C131) ∧ w125.cell? (Addr.add (Addr.add a127 (Int.toNat n126 * 5)) 4) = some (.int .i64 n_X132) ∧
 ∀ (b133 : Nat) (w134 : World), b133 = w125.heap.size → w134 = World.alloc w125 (.cells #[.int .i64 (0 : Int), .int .i64 (0 : Int), .int .i64 (0 : Int), .int .i64 (0 : Int), .int .i64 (0 : Int)] T_api_Ins) →
 wrOk w134 ⟨b133, 0, none⟩ 5 ∧ ∀ w135 : World, w135 = stW w134 ⟨b133, 0, none⟩ 0 [.int .i64 n_Op128, .int .i64 n_A129, .int .i64 n_B130, .int .i64 n_C131, .int .i64 n_X132] →
 ∃ n_Op137 : Int, ∃ n_A138 : Int, ∃ n_B139 : Int, ∃ n_C140 : Int, ∃ n_X141 : Int, w135.cell? ⟨b133, 0, none⟩ = some (.int .i64 n_Op137) ∧ w135.cell? ⟨b133, 1, none⟩ = some (.int .i64 n_A138) ∧ w135.cell? ⟨b133, 2, none⟩ = some (.int .i64 n_B139) ∧ w135.cell? ⟨b133, 3, none⟩ = some (.int .i64 n_C140) ∧ w135.cell? ⟨b133, 4, none⟩ = some (.int .i64 n_X141) ∧
 Calls Tryz.prog fn_fold_Map_Ins #[m136.val, .agg #[.int .i64 n_Op137, .int .i64 n_A138, .int .i64 n_B139, .int .i64 n_C140, .int .i64 n_X141]] w135 fun e142 w143 => ∃ n_Op144 : Int, ∃ n_A145 : Int, ∃ n_B146 : Int, ∃ n_C147 : Int, ∃ n_X148 : Int, e142 = .returned (.agg #[.int .i64 n_Op144, .int .i64 n_A145, .int .i64 n_B146, .int .i64 n_C147, .int .i64 n_X148]) ∧
 wrOk w143 ⟨b133, 0, none⟩ 5 ∧ ∀ w149 : World, w149 = stW w143 ⟨b133, 0, none⟩ 0 [.int .i64 n_Op144, .int .i64 n_A145, .int .i64 n_B146, .int .i64 n_C147, .int .i64 n_X148] →
 ∀ (b151 : Nat) (w152 : World), b151 = w149.heap.size → w152 = World.alloc w149 (.cells #[.int .i64 (l150.len : Int)] T_int) →
 ∃ s153 : Sl, ∃ w154 : World, (Builtin.append_ #[T_fold_Map, T_fold_Map] T_fold_Map #[m136.val, .slice (some ⟨b151, 0, none⟩) 1 1]).run Tryz.prog w152 = .ok (s153.val) w154 ∧
 ∃ a155 : Addr, s58.ptr = some a155 ∧ 0 ≤ n126 ∧ n126 < (s58.len : Int) ∧
 ∃ b156 : Bool, w154.cell? (Addr.add a155 (Int.toNat n126 * 1)) = some (.bool b156) ∧
 brB b156
 (∃ n_Op157 : Int, ∃ n_A158 : Int, ∃ n_B159 : Int, ∃ n_C160 : Int, ∃ n_X161 : Int, w154.cell? ⟨b133, 0, none⟩ = some (.int .i64 n_Op157) ∧ w154.cell? ⟨b133, 1, none⟩ = some (.int .i64 n_A158) ∧ w154.cell? ⟨b133, 2, none⟩ = some (.int .i64 n_B159) ∧ w154.cell? ⟨b133, 3, none⟩ = some (.int .i64 n_C160) ∧ w154.cell? ⟨b133, 4, none⟩ = some (.int .i64 n_X161) ∧
 Calls Tryz.prog fn_prune_renamed #[.agg #[.int .i64 n_Op157, .int .i64 n_A158, .int .i64 n_B159, .int .i64 n_C160, .int .i64 n_X161], exits105.val] w154 fun e162 w163 => ∃ n_Op164 : Int, ∃ n_A165 : Int, ∃ n_B166 : Int, ∃ n_C167 : Int, ∃ n_X168 : Int, e162 = .returned (.agg #[.int .i64 n_Op164, .int .i64 n_A165, .int .i64 n_B166, .int .i64 n_C167, .int .i64 n_X168]) ∧
 ∀ (b169 : Nat) (w170 : World), b169 = w163.heap.size → w170 = World.alloc w163 (.cells #[.int .i64 n_Op164, .int .i64 n_A165, .int .i64 n_B166, .int .i64 n_C167, .int .i64 n_X168] T_api_Ins) →
 ∃ s171 : Sl, ∃ w172 : World, (Builtin.append_ #[T_sl_api_Ins, T_sl_api_Ins] T_sl_api_Ins #[l150.val, .slice (some ⟨b169, 0, none⟩) 1 1]).run Tryz.prog w170 = .ok (s171.val) w172 ∧
 J29 s153 s171 w172)
 (J29 s153 l150 w154))
 (∀ w174 : World, w174 = World.drew w125 →
 ∃ S175 : World → Prop, S175 w174 ∧
 ∃ n176 : Int, held S175 ⟨b10, 7, none⟩ (.int .i64 n176) ∧
 ∃ s177 : Sl, held S175 ⟨b10, 8, none⟩ (s177.val) ∧
 Calls Tryz.prog fn_fold_Map_Outs #[m136.val, outs106.val] w174 fun e178 w179 => ∃ s180 : Sl, e178 = .returned (s180.val) ∧
 S175 w179 ∧
 Calls Tryz.prog fn_fold_Map_Of #[exits105.val, .int .i64 n176] w179 fun e181 w182 => ∃ n183 : Int, e181 = .returned (.int .i64 n183) ∧
 S175 w182 ∧
 Calls Tryz.prog fn_slices_Clone_sl_int_int #[s177.val] w182 fun e184 w185 => ∃ s186 : Sl, e184 = .returned (s186.val) ∧
 S175 w185 ∧
 wrOk w185 ⟨b10, 5, none⟩ 1 ∧ ∀ w187 : World, w187 = stW w185 ⟨b10, 5, none⟩ 0 [l150.val] →
 wrOk w187 ⟨b10, 6, none⟩ 1 ∧ ∀ w188 : World, w188 = stW w187 ⟨b10, 6, none⟩ 0 [s180.val] →
 wrOk w188 ⟨b10, 7, none⟩ 1 ∧ ∀ w189 : World, w189 = stW w188 ⟨b10, 7, none⟩ 0 [.int .i64 n183] →
 wrOk w189 ⟨b10, 8, none⟩ 1 ∧ ∀ w190 : World, w190 = stW w189 ⟨b10, 8, none⟩ 0 [s186.val] →
 ∃ n_Start191 : Int, ∃ n_Slots192 : Int, ∃ n_Backs193 : Int, ∃ n_Grow194 : Int, ∃ n_GrowBack195 : Int, ∃ s_Ins196 : Sl, ∃ s_Outs197 : Sl, ∃ n_Last198 : Int, ∃ s_Cells199 : Sl, w190.cell? ⟨b10, 0, none⟩ = some (.int .i64 n_Start191) ∧ w190.cell? ⟨b10, 1, none⟩ = some (.int .i64 n_Slots192) ∧ w190.cell? ⟨b10, 2, none⟩ = some (.int .i64 n_Backs193) ∧ w190.cell? ⟨b10, 3, none⟩ = some (.int .i64 n_Grow194) ∧ w190.cell? ⟨b10, 4, none⟩ = some (.int .i64 n_GrowBack195) ∧ w190.cell? ⟨b10, 5, none⟩ = some (s_Ins196.val) ∧ w190.cell? ⟨b10, 6, none⟩ = some (s_Outs197.val) ∧ w190.cell? ⟨b10, 7, none⟩ = some (.int .i64 n_Last198) ∧ w190.cell? ⟨b10, 8, none⟩ = some (s_Cells199.val) ∧
 wrOk w190 ⟨b12, 0, none⟩ 9 ∧ ∀ w200 : World, w200 = stW w190 ⟨b12, 0, none⟩ 0 [.int .i64 n_Start191, .int .i64 n_Slots192, .int .i64 n_Backs193, .int .i64 n_Grow194, .int .i64 n_GrowBack195, s_Ins196.val, s_Outs197.val, .int .i64 n_Last198, s_Cells199.val] →
 ∃ r_Start201 : Int, ∃ r_Slots202 : Int, ∃ r_Backs203 : Int, ∃ r_Grow204 : Int, ∃ r_GrowBack205 : Int, ∃ r_Ins206 : Sl, ∃ r_Outs207 : Sl, ∃ r_Last208 : Int, ∃ r_Cells209 : Sl, w200.cell? ⟨b12, 0, none⟩ = some (.int .i64 r_Start201) ∧ w200.cell? ⟨b12, 1, none⟩ = some (.int .i64 r_Slots202) ∧ w200.cell? ⟨b12, 2, none⟩ = some (.int .i64 r_Backs203) ∧ w200.cell? ⟨b12, 3, none⟩ = some (.int .i64 r_Grow204) ∧ w200.cell? ⟨b12, 4, none⟩ = some (.int .i64 r_GrowBack205) ∧ w200.cell? ⟨b12, 5, none⟩ = some (r_Ins206.val) ∧ w200.cell? ⟨b12, 6, none⟩ = some (r_Outs207.val) ∧ w200.cell? ⟨b12, 7, none⟩ = some (.int .i64 r_Last208) ∧ w200.cell? ⟨b12, 8, none⟩ = some (r_Cells209.val) ∧
 K (.agg #[.int .i64 r_Start201, .int .i64 r_Slots202, .int .i64 r_Backs203, .int .i64 r_Grow204, .int .i64 r_GrowBack205, r_Ins206.val, r_Outs207.val, .int .i64 r_Last208, r_Cells209.val]) w200))))
def prune_Do_an : An := ⟨[(6, [(5, .int .i64)]), (15, [(7, .sl), (9, .sl), (65, .int .i64)]), (22, [(6, .sl), (8, .sl), (90, .int .i64)])], [(29, (12, .st 0 (.st 1 (.st 2 (.st 4 (.st 5 (.st 6 (.st 8 (.st 9 (.st 11 (.ef 3 (.ef 7 (.ef 10 .done))))))))))), 1))], [(9, []), (7, []), (20, [(7, .sl), (9, .sl)]), (28, [(6, .sl), (8, .sl)])]⟩
theorem prune_Do_lift {t__Start1 : Int} {t__Slots2 : Int} {t__Backs3 : Int} {t__Grow4 : Int} {t__GrowBack5 : Int} {t__Ins6 : Sl} {t__Outs7 : Sl} {t__Last8 : Int} {t__Cells9 : Sl} {w : World} {K : Value → World → Prop} (h : prune_Do_sh t__Start1 t__Slots2 t__Backs3 t__Grow4 t__GrowBack5 t__Ins6 t__Outs7 t__Last8 t__Cells9 w K) : Calls Tryz.prog fn_prune_Do #[.agg #[.int .i64 t__Start1, .int .i64 t__Slots2, .int .i64 t__Backs3, .int .i64 t__Grow4, .int .i64 t__GrowBack5, t__Ins6.val, t__Outs7.val, .int .i64 t__Last8, t__Cells9.val]] w fun e w' => ∃ v, e = .returned v ∧ K v w' :=
   lift_calls (A := prune_Do_an) (c := bodyOf Tryz.f24) (args := [.agg #[.int .i64 t__Start1, .int .i64 t__Slots2, .int .i64 t__Backs3, .int .i64 t__Grow4, .int .i64 t__GrowBack5, t__Ins6.val, t__Outs7.val, .int .i64 t__Last8, t__Cells9.val]]) orc orc_wide Tryz.func24 (by kernel_rfl) (by kernel_rfl) (Eq.mp (by kernel_rfl : prune_Do_sh t__Start1 t__Slots2 t__Backs3 t__Grow4 t__GrowBack5 t__Ins6 t__Outs7 t__Last8 t__Cells9 w K = wpc orc Tryz.f24.ntmps prune_Do_an (bodyOf Tryz.f24) (argl 0 [.agg #[.int .i64 t__Start1, .int .i64 t__Slots2, .int .i64 t__Backs3, .int .i64 t__Grow4, .int .i64 t__GrowBack5, t__Ins6.val, t__Outs7.val, .int .i64 t__Last8, t__Cells9.val]]) w (retQ orc Tryz.f24.results.toList K)) h)

-- holloway/prune.Left
def prune_Left_sh (t__Start1 : Int) (t__Slots2 : Int) (t__Backs3 : Int) (t__Grow4 : Int) (t__GrowBack5 : Int) (t__Ins6 : Sl) (t__Outs7 : Sl) (t__Last8 : Int) (t__Cells9 : Sl) (w : World) (K : Value → World → Prop) : Prop :=
 ∀ (b10 : Nat) (w11 : World), b10 = w.heap.size → w11 = World.alloc w (.cells #[.int .i64 t__Start1, .int .i64 t__Slots2, .int .i64 t__Backs3, .int .i64 t__Grow4, .int .i64 t__GrowBack5, t__Ins6.val, t__Outs7.val, .int .i64 t__Last8, t__Cells9.val] T_api_Trace) →
 ∃ n_Start12 : Int, ∃ n_Slots13 : Int, ∃ n_Backs14 : Int, ∃ n_Grow15 : Int, ∃ n_GrowBack16 : Int, ∃ s_Ins17 : Sl, ∃ s_Outs18 : Sl, ∃ n_Last19 : Int, ∃ s_Cells20 : Sl, w11.cell? ⟨b10, 0, none⟩ = some (.int .i64 n_Start12) ∧ w11.cell? ⟨b10, 1, none⟩ = some (.int .i64 n_Slots13) ∧ w11.cell? ⟨b10, 2, none⟩ = some (.int .i64 n_Backs14) ∧ w11.cell? ⟨b10, 3, none⟩ = some (.int .i64 n_Grow15) ∧ w11.cell? ⟨b10, 4, none⟩ = some (.int .i64 n_GrowBack16) ∧ w11.cell? ⟨b10, 5, none⟩ = some (s_Ins17.val) ∧ w11.cell? ⟨b10, 6, none⟩ = some (s_Outs18.val) ∧ w11.cell? ⟨b10, 7, none⟩ = some (.int .i64 n_Last19) ∧ w11.cell? ⟨b10, 8, none⟩ = some (s_Cells20.val) ∧
 Calls Tryz.prog fn_ir_Right #[.agg #[.int .i64 n_Start12, .int .i64 n_Slots13, .int .i64 n_Backs14, .int .i64 n_Grow15, .int .i64 n_GrowBack16, s_Ins17.val, s_Outs18.val, .int .i64 n_Last19, s_Cells20.val]] w11 fun e21 w22 => ∃ b23 : Bool, e21 = .returned (.bool b23) ∧
 brB (!b23)
 (K (.int .i64 (0 : Int)) w22)
 (∃ n_Start24 : Int, ∃ n_Slots25 : Int, ∃ n_Backs26 : Int, ∃ n_Grow27 : Int, ∃ n_GrowBack28 : Int, ∃ s_Ins29 : Sl, ∃ s_Outs30 : Sl, ∃ n_Last31 : Int, ∃ s_Cells32 : Sl, w22.cell? ⟨b10, 0, none⟩ = some (.int .i64 n_Start24) ∧ w22.cell? ⟨b10, 1, none⟩ = some (.int .i64 n_Slots25) ∧ w22.cell? ⟨b10, 2, none⟩ = some (.int .i64 n_Backs26) ∧ w22.cell? ⟨b10, 3, none⟩ = some (.int .i64 n_Grow27) ∧ w22.cell? ⟨b10, 4, none⟩ = some (.int .i64 n_GrowBack28) ∧ w22.cell? ⟨b10, 5, none⟩ = some (s_Ins29.val) ∧ w22.cell? ⟨b10, 6, none⟩ = some (s_Outs30.val) ∧ w22.cell? ⟨b10, 7, none⟩ = some (.int .i64 n_Last31) ∧ w22.cell? ⟨b10, 8, none⟩ = some (s_Cells32.val) ∧
 Calls Tryz.prog fn_prune_begin #[.agg #[.int .i64 n_Start24, .int .i64 n_Slots25, .int .i64 n_Backs26, .int .i64 n_Grow27, .int .i64 n_GrowBack28, s_Ins29.val, s_Outs30.val, .int .i64 n_Last31, s_Cells32.val]] w22 fun e33 w34 => ∃ p35 : Option Addr, e33 = .returned (.pointer p35) ∧
 ∃ s36 : Sl, w34.cell? ⟨b10, 5, none⟩ = some (s36.val) ∧
 ∃ (I1 : Int → World → Prop) (μ1 : Int → World → Nat), I1 (0 : Int) w34 ∧ ∀ (n38 : Int) (w37 : World), I1 n38 w37 →
 brB (decide (n38 < (s36.len : Int)))
 (∃ a39 : Addr, s36.ptr = some a39 ∧ 0 ≤ n38 ∧ n38 < (s36.len : Int) ∧
 ∃ n_Op40 : Int, ∃ n_A41 : Int, ∃ n_B42 : Int, ∃ n_C43 : Int, ∃ n_X44 : Int, w37.cell? (Addr.add a39 (Int.toNat n38 * 5)) = some (.int .i64 n_Op40) ∧ w37.cell? (Addr.add (Addr.add a39 (Int.toNat n38 * 5)) 1) = some (.int .i64 n_A41) ∧ w37.cell? (Addr.add (Addr.add a39 (Int.toNat n38 * 5)) 2) = some (.int .i64 n_B42) ∧ w37.cell? (Addr.add (Addr.add a39 (Int.toNat n38 * 5)) 3) = some (.int .i64 n_C43) ∧ w37.cell? (Addr.add (Addr.add a39 (Int.toNat n38 * 5)) 4) = some (.int .i64 n_X44) ∧
 ∀ (b45 : Nat) (w46 : World), b45 = w37.heap.size → w46 = World.alloc w37 (.cells #[.int .i64 (0 : Int), .int .i64 (0 : Int), .int .i64 (0 : Int), .int .i64 (0 : Int), .int .i64 (0 : Int)] T_api_Ins) →
 wrOk w46 ⟨b45, 0, none⟩ 5 ∧ ∀ w47 : World, w47 = stW w46 ⟨b45, 0, none⟩ 0 [.int .i64 n_Op40, .int .i64 n_A41, .int .i64 n_B42, .int .i64 n_C43, .int .i64 n_X44] →
 ∃ n_Op48 : Int, ∃ n_A49 : Int, ∃ n_B50 : Int, ∃ n_C51 : Int, ∃ n_X52 : Int, w47.cell? ⟨b45, 0, none⟩ = some (.int .i64 n_Op48) ∧ w47.cell? ⟨b45, 1, none⟩ = some (.int .i64 n_A49) ∧ w47.cell? ⟨b45, 2, none⟩ = some (.int .i64 n_B50) ∧ w47.cell? ⟨b45, 3, none⟩ = some (.int .i64 n_C51) ∧ w47.cell? ⟨b45, 4, none⟩ = some (.int .i64 n_X52) ∧
 Calls Tryz.prog fn_prune_need_all #[.pointer p35, .agg #[.int .i64 n_Op48, .int .i64 n_A49, .int .i64 n_B50, .int .i64 n_C51, .int .i64 n_X52]] w47 fun e53 w54 => e53 = .returned (.tuple #[]) ∧
 I1 (wr (n38 + (1 : Int))) w54 ∧ μ1 (wr (n38 + (1 : Int))) w54 < μ1 n38 w37)
 (∃ s55 : Sl, w37.cell? ⟨b10, 5, none⟩ = some (s55.val) ∧
 ∃ (I2 : Int → Int → World → Prop) (μ2 : Int → Int → World → Nat), I2 (0 : Int) (0 : Int) w37 ∧ ∀ (left81 : Int) (n57 : Int) (w56 : World), I2 left81 n57 w56 →
 brB (decide (n57 < (s55.len : Int)))
 (∃ J17 : Int → World → Prop, (∀ (left91 : Int) (w82 : World), J17 left91 w82 →
 I2 left91 (wr (n57 + (1 : Int))) w82 ∧ μ2 left91 (wr (n57 + (1 : Int))) w82 < μ2 left81 n57 w56) ∧
 ∃ a58 : Addr, s55.ptr = some a58 ∧ 0 ≤ n57 ∧ n57 < (s55.len : Int) ∧
 ∃ n_Op59 : Int, ∃ n_A60 : Int, ∃ n_B61 : Int, ∃ n_C62 : Int, ∃ n_X63 : Int, w56.cell? (Addr.add a58 (Int.toNat n57 * 5)) = some (.int .i64 n_Op59) ∧ w56.cell? (Addr.add (Addr.add a58 (Int.toNat n57 * 5)) 1) = some (.int .i64 n_A60) ∧ w56.cell? (Addr.add (Addr.add a58 (Int.toNat n57 * 5)) 2) = some (.int .i64 n_B61) ∧ w56.cell? (Addr.add (Addr.add a58 (Int.toNat n57 * 5)) 3) = some (.int .i64 n_C62) ∧ w56.cell? (Addr.add (Addr.add a58 (Int.toNat n57 * 5)) 4) = some (.int .i64 n_X63) ∧
 ∀ (b64 : Nat) (w65 : World), b64 = w56.heap.size → w65 = World.alloc w56 (.cells #[.int .i64 (0 : Int), .int .i64 (0 : Int), .int .i64 (0 : Int), .int .i64 (0 : Int), .int .i64 (0 : Int)] T_api_Ins) →
 wrOk w65 ⟨b64, 0, none⟩ 5 ∧ ∀ w66 : World, w66 = stW w65 ⟨b64, 0, none⟩ 0 [.int .i64 n_Op59, .int .i64 n_A60, .int .i64 n_B61, .int .i64 n_C62, .int .i64 n_X63] →
 ∃ J19 : Bool → World → Prop, (∀ (b80 : Bool) (w79 : World), J19 b80 w79 →
 brB b80
 (J17 (wr (left81 + (1 : Int))) w79)
 (J17 left81 w79)) ∧
 ∃ n_Op67 : Int, ∃ n_A68 : Int, ∃ n_B69 : Int, ∃ n_C70 : Int, ∃ n_X71 : Int, w66.cell? ⟨b64, 0, none⟩ = some (.int .i64 n_Op67) ∧ w66.cell? ⟨b64, 1, none⟩ = some (.int .i64 n_A68) ∧ w66.cell? ⟨b64, 2, none⟩ = some (.int .i64 n_B69) ∧ w66.cell? ⟨b64, 3, none⟩ = some (.int .i64 n_C70) ∧ w66.cell? ⟨b64, 4, none⟩ = some (.int .i64 n_X71) ∧
 Calls Tryz.prog fn_prune_pure #[.agg #[.int .i64 n_Op67, .int .i64 n_A68, .int .i64 n_B69, .int .i64 n_C70, .int .i64 n_X71]] w66 fun e72 w73 => ∃ b74 : Bool, e72 = .returned (.bool b74) ∧
 brB b74
 (nn p35 fun a75 =>
 ∃ s76 : Sl, w73.cell? (Addr.add a75 9) = some (s76.val) ∧
 ∃ a77 : Addr, s76.ptr = some a77 ∧ 0 ≤ n57 ∧ n57 < (s76.len : Int) ∧
 ∃ b78 : Bool, w73.cell? (Addr.add a77 (Int.toNat n57 * 1)) = some (.bool b78) ∧
 J19 (!b78) w73)
 (J19 false w73))
 (nn p35 fun a83 =>
 ∃ s84 : Sl, w56.cell? (Addr.add a83 10) = some (s84.val) ∧
 ∃ (I3 : Int → Int → World → Prop) (μ3 : Int → Int → World → Nat), I3 left81 (0 : Int) w56 ∧ ∀ (left89 : Int) (n86 : Int) (w85 : World), I3 left89 n86 w85 →
 brB (decide (n86 < (s84.len : Int)))
 (∃ J24 : Int → World → Prop, (∀ (left92 : Int) (w90 : World), J24 left92 w90 →
 I3 left92 (wr (n86 + (1 : Int))) w90 ∧ μ3 left92 (wr (n86 + (1 : Int))) w90 < μ3 left89 n86 w85) ∧
 ∃ a87 : Addr, s84.ptr = some a87 ∧ 0 ≤ n86 ∧ n86 < (s84.len : Int) ∧
 ∃ b88 : Bool, w85.cell? (Addr.add a87 (Int.toNat n86 * 1)) = some (.bool b88) ∧
 brB (!b88)
 (J24 (wr (left89 + (1 : Int))) w85)
 (J24 left89 w85))
 (K (.int .i64 left89) w85))))
def prune_Left_an : An := ⟨[(5, [(19, .int .i64)]), (11, [(6, .int .i64), (30, .int .i64)]), (17, [(6, .int .i64), (55, .int .i64)])], [], [(14, [(46, .bool)]), (15, [(6, .int .i64)]), (21, [(6, .int .i64)])]⟩
theorem prune_Left_lift {t__Start1 : Int} {t__Slots2 : Int} {t__Backs3 : Int} {t__Grow4 : Int} {t__GrowBack5 : Int} {t__Ins6 : Sl} {t__Outs7 : Sl} {t__Last8 : Int} {t__Cells9 : Sl} {w : World} {K : Value → World → Prop} (h : prune_Left_sh t__Start1 t__Slots2 t__Backs3 t__Grow4 t__GrowBack5 t__Ins6 t__Outs7 t__Last8 t__Cells9 w K) : Calls Tryz.prog fn_prune_Left #[.agg #[.int .i64 t__Start1, .int .i64 t__Slots2, .int .i64 t__Backs3, .int .i64 t__Grow4, .int .i64 t__GrowBack5, t__Ins6.val, t__Outs7.val, .int .i64 t__Last8, t__Cells9.val]] w fun e w' => ∃ v, e = .returned v ∧ K v w' :=
   lift_calls (A := prune_Left_an) (c := bodyOf Tryz.f29) (args := [.agg #[.int .i64 t__Start1, .int .i64 t__Slots2, .int .i64 t__Backs3, .int .i64 t__Grow4, .int .i64 t__GrowBack5, t__Ins6.val, t__Outs7.val, .int .i64 t__Last8, t__Cells9.val]]) orc orc_wide Tryz.func29 (by kernel_rfl) (by kernel_rfl) (Eq.mp (by kernel_rfl : prune_Left_sh t__Start1 t__Slots2 t__Backs3 t__Grow4 t__GrowBack5 t__Ins6 t__Outs7 t__Last8 t__Cells9 w K = wpc orc Tryz.f29.ntmps prune_Left_an (bodyOf Tryz.f29) (argl 0 [.agg #[.int .i64 t__Start1, .int .i64 t__Slots2, .int .i64 t__Backs3, .int .i64 t__Grow4, .int .i64 t__GrowBack5, t__Ins6.val, t__Outs7.val, .int .i64 t__Last8, t__Cells9.val]]) w (retQ orc Tryz.f29.results.toList K)) h)

-- holloway/prune.begin
def prune_begin_sh (t__Start1 : Int) (t__Slots2 : Int) (t__Backs3 : Int) (t__Grow4 : Int) (t__GrowBack5 : Int) (t__Ins6 : Sl) (t__Outs7 : Sl) (t__Last8 : Int) (t__Cells9 : Sl) (w : World) (K : Value → World → Prop) : Prop :=
 ∀ (b10 : Nat) (w11 : World), b10 = w.heap.size → w11 = World.alloc w (.cells #[.int .i64 t__Start1, .int .i64 t__Slots2, .int .i64 t__Backs3, .int .i64 t__Grow4, .int .i64 t__GrowBack5, t__Ins6.val, t__Outs7.val, .int .i64 t__Last8, t__Cells9.val] T_api_Trace) →
 ∃ J2 : (Option Addr) → World → Prop, (∀ (n38 : Option Addr) (w37 : World), J2 n38 w37 →
 ∃ n39 : Int, w37.cell? ⟨b10, 7, none⟩ = some (.int .i64 n39) ∧
 Calls Tryz.prog fn_prune_need_exit #[.pointer n38, .int .i64 n39] w37 fun e40 w41 => e40 = .returned (.tuple #[]) ∧
 K (.pointer n38) w41) ∧
 ∀ w12 : World, w12 = World.drew w11 →
 ∃ S13 : World → Prop, S13 w12 ∧
 ∃ n_Start14 : Int, ∃ n_Slots15 : Int, ∃ n_Backs16 : Int, ∃ n_Grow17 : Int, ∃ n_GrowBack18 : Int, ∃ s_Ins19 : Sl, ∃ s_Outs20 : Sl, ∃ n_Last21 : Int, ∃ s_Cells22 : Sl, held S13 ⟨b10, 0, none⟩ (.int .i64 n_Start14) ∧ held S13 ⟨b10, 1, none⟩ (.int .i64 n_Slots15) ∧ held S13 ⟨b10, 2, none⟩ (.int .i64 n_Backs16) ∧ held S13 ⟨b10, 3, none⟩ (.int .i64 n_Grow17) ∧ held S13 ⟨b10, 4, none⟩ (.int .i64 n_GrowBack18) ∧ held S13 ⟨b10, 5, none⟩ (s_Ins19.val) ∧ held S13 ⟨b10, 6, none⟩ (s_Outs20.val) ∧ held S13 ⟨b10, 7, none⟩ (.int .i64 n_Last21) ∧ held S13 ⟨b10, 8, none⟩ (s_Cells22.val) ∧
 ∃ s23 : Sl, held S13 ⟨b10, 5, none⟩ (s23.val) ∧
 ∃ s24 : Sl, held S13 ⟨b10, 6, none⟩ (s24.val) ∧
 (∃ s25 : Sl, ∃ w26 : World, (Instr.makeSlice T_sl_bool (.int .i64 (s23.len : Int)) (.int .i64 (s23.len : Int))).run Tryz.prog w12 = .ok s25.val w26 ∧
 S13 w26 ∧
 ∃ s27 : Sl, ∃ w28 : World, (Instr.makeSlice T_sl_bool (.int .i64 (s24.len : Int)) (.int .i64 (s24.len : Int))).run Tryz.prog w26 = .ok s27.val w28 ∧
 S13 w28 ∧
 ∀ (b29 : Nat) (w30 : World), b29 = w28.heap.size → w30 = World.alloc w28 (.cells #[.int .i64 n_Start14, .int .i64 n_Slots15, .int .i64 n_Backs16, .int .i64 n_Grow17, .int .i64 n_GrowBack18, s_Ins19.val, s_Outs20.val, .int .i64 n_Last21, s_Cells22.val, s25.val, s27.val] T_prune_need) →
 J2 (some ⟨b29, 0, none⟩) w30) ∧
 (∃ s31 : Sl, ∃ w32 : World, (Instr.makeSlice T_sl_bool (.int .i64 (s24.len : Int)) (.int .i64 (s24.len : Int))).run Tryz.prog w12 = .ok s31.val w32 ∧
 S13 w32 ∧
 ∃ s33 : Sl, ∃ w34 : World, (Instr.makeSlice T_sl_bool (.int .i64 (s23.len : Int)) (.int .i64 (s23.len : Int))).run Tryz.prog w32 = .ok s33.val w34 ∧
 S13 w34 ∧
 ∀ (b35 : Nat) (w36 : World), b35 = w34.heap.size → w36 = World.alloc w34 (.cells #[.int .i64 n_Start14, .int .i64 n_Slots15, .int .i64 n_Backs16, .int .i64 n_Grow17, .int .i64 n_GrowBack18, s_Ins19.val, s_Outs20.val, .int .i64 n_Last21, s_Cells22.val, s33.val, s31.val] T_prune_need) →
 J2 (some ⟨b35, 0, none⟩) w36)
def prune_begin_an : An := ⟨[], [(1, (9, .st 0 (.st 1 (.st 2 (.st 3 (.st 5 (.st 6 (.st 7 (.two 4 (.ef 8 .done) 8 (.ef 4 .done)))))))), 1))], [(2, [(3, .ptr)])]⟩
theorem prune_begin_lift {t__Start1 : Int} {t__Slots2 : Int} {t__Backs3 : Int} {t__Grow4 : Int} {t__GrowBack5 : Int} {t__Ins6 : Sl} {t__Outs7 : Sl} {t__Last8 : Int} {t__Cells9 : Sl} {w : World} {K : Value → World → Prop} (h : prune_begin_sh t__Start1 t__Slots2 t__Backs3 t__Grow4 t__GrowBack5 t__Ins6 t__Outs7 t__Last8 t__Cells9 w K) : Calls Tryz.prog fn_prune_begin #[.agg #[.int .i64 t__Start1, .int .i64 t__Slots2, .int .i64 t__Backs3, .int .i64 t__Grow4, .int .i64 t__GrowBack5, t__Ins6.val, t__Outs7.val, .int .i64 t__Last8, t__Cells9.val]] w fun e w' => ∃ v, e = .returned v ∧ K v w' :=
   lift_calls (A := prune_begin_an) (c := bodyOf Tryz.f82) (args := [.agg #[.int .i64 t__Start1, .int .i64 t__Slots2, .int .i64 t__Backs3, .int .i64 t__Grow4, .int .i64 t__GrowBack5, t__Ins6.val, t__Outs7.val, .int .i64 t__Last8, t__Cells9.val]]) orc orc_wide Tryz.func82 (by kernel_rfl) (by kernel_rfl) (Eq.mp (by kernel_rfl : prune_begin_sh t__Start1 t__Slots2 t__Backs3 t__Grow4 t__GrowBack5 t__Ins6 t__Outs7 t__Last8 t__Cells9 w K = wpc orc Tryz.f82.ntmps prune_begin_an (bodyOf Tryz.f82) (argl 0 [.agg #[.int .i64 t__Start1, .int .i64 t__Slots2, .int .i64 t__Backs3, .int .i64 t__Grow4, .int .i64 t__GrowBack5, t__Ins6.val, t__Outs7.val, .int .i64 t__Last8, t__Cells9.val]]) w (retQ orc Tryz.f82.results.toList K)) h)

-- holloway/prune.pure
def prune_pure_j1 (n8 : Int) (b6 : Nat) (b12 : Bool) (w11 : World) (K : Value → World → Prop) : Prop :=
 brB b12
 (K (.bool true) w11)
 (brB (n8 == (3 : Int))
 (K (.bool true) w11)
 (brB (n8 == (4 : Int))
 (∃ n_Op14 : Int, ∃ n_A15 : Int, ∃ n_B16 : Int, ∃ n_C17 : Int, ∃ n_X18 : Int, w11.cell? ⟨b6, 0, none⟩ = some (.int .i64 n_Op14) ∧ w11.cell? ⟨b6, 1, none⟩ = some (.int .i64 n_A15) ∧ w11.cell? ⟨b6, 2, none⟩ = some (.int .i64 n_B16) ∧ w11.cell? ⟨b6, 3, none⟩ = some (.int .i64 n_C17) ∧ w11.cell? ⟨b6, 4, none⟩ = some (.int .i64 n_X18) ∧
 Calls Tryz.prog fn_ir_Outs #[.agg #[.int .i64 n_Op14, .int .i64 n_A15, .int .i64 n_B16, .int .i64 n_C17, .int .i64 n_X18]] w11 fun e19 w20 => ∃ s21 : Sl, e19 = .returned (s21.val) ∧
 K (.bool ((s21.len : Int) == (0 : Int))) w20)
 (K (.bool false) w11)))
def prune_pure_sh (i__Op1 : Int) (i__A2 : Int) (i__B3 : Int) (i__C4 : Int) (i__X5 : Int) (w : World) (K : Value → World → Prop) : Prop :=
 ∀ (b6 : Nat) (w7 : World), b6 = w.heap.size → w7 = World.alloc w (.cells #[.int .i64 i__Op1, .int .i64 i__A2, .int .i64 i__B3, .int .i64 i__C4, .int .i64 i__X5] T_api_Ins) →
 ∃ n8 : Int, w7.cell? ⟨b6, 0, none⟩ = some (.int .i64 n8) ∧
 brB (n8 == (1 : Int))
 (prune_pure_j1 n8 b6 (n8 == (1 : Int)) w7 K)
 (prune_pure_j1 n8 b6 (n8 == (2 : Int)) w7 K)
def prune_pure_an : An := ⟨[], [], []⟩
theorem prune_pure_lift {i__Op1 : Int} {i__A2 : Int} {i__B3 : Int} {i__C4 : Int} {i__X5 : Int} {w : World} {K : Value → World → Prop} (h : prune_pure_sh i__Op1 i__A2 i__B3 i__C4 i__X5 w K) : Calls Tryz.prog fn_prune_pure #[.agg #[.int .i64 i__Op1, .int .i64 i__A2, .int .i64 i__B3, .int .i64 i__C4, .int .i64 i__X5]] w fun e w' => ∃ v, e = .returned v ∧ K v w' :=
   lift_calls (A := prune_pure_an) (c := bodyOf Tryz.f83) (args := [.agg #[.int .i64 i__Op1, .int .i64 i__A2, .int .i64 i__B3, .int .i64 i__C4, .int .i64 i__X5]]) orc orc_wide Tryz.func83 (by kernel_rfl) (by kernel_rfl) (Eq.mp (by kernel_rfl : prune_pure_sh i__Op1 i__A2 i__B3 i__C4 i__X5 w K = wpc orc Tryz.f83.ntmps prune_pure_an (bodyOf Tryz.f83) (argl 0 [.agg #[.int .i64 i__Op1, .int .i64 i__A2, .int .i64 i__B3, .int .i64 i__C4, .int .i64 i__X5]]) w (retQ orc Tryz.f83.results.toList K)) h)

-- (*holloway/prune.need).all
def prune_need_all_sh (n_1 : Nat) (i__Op2 : Int) (i__A3 : Int) (i__B4 : Int) (i__C5 : Int) (i__X6 : Int) (w : World) (K : Value → World → Prop) : Prop :=
 ∀ (b7 : Nat) (w8 : World), b7 = w.heap.size → w8 = World.alloc w (.cells #[.int .i64 i__Op2, .int .i64 i__A3, .int .i64 i__B4, .int .i64 i__C5, .int .i64 i__X6] T_api_Ins) →
 ∃ n_Op9 : Int, ∃ n_A10 : Int, ∃ n_B11 : Int, ∃ n_C12 : Int, ∃ n_X13 : Int, w8.cell? ⟨b7, 0, none⟩ = some (.int .i64 n_Op9) ∧ w8.cell? ⟨b7, 1, none⟩ = some (.int .i64 n_A10) ∧ w8.cell? ⟨b7, 2, none⟩ = some (.int .i64 n_B11) ∧ w8.cell? ⟨b7, 3, none⟩ = some (.int .i64 n_C12) ∧ w8.cell? ⟨b7, 4, none⟩ = some (.int .i64 n_X13) ∧
 Calls Tryz.prog fn_ir_Uses #[.agg #[.int .i64 n_Op9, .int .i64 n_A10, .int .i64 n_B11, .int .i64 n_C12, .int .i64 n_X13]] w8 fun e14 w15 => ∃ s16 : Sl, e14 = .returned (s16.val) ∧
 Calls Tryz.prog fn_prune_need_places #[.pointer (some ⟨n_1, 0, none⟩), s16.val] w15 fun e17 w18 => e17 = .returned (.tuple #[]) ∧
 ∃ n_Op19 : Int, ∃ n_A20 : Int, ∃ n_B21 : Int, ∃ n_C22 : Int, ∃ n_X23 : Int, w18.cell? ⟨b7, 0, none⟩ = some (.int .i64 n_Op19) ∧ w18.cell? ⟨b7, 1, none⟩ = some (.int .i64 n_A20) ∧ w18.cell? ⟨b7, 2, none⟩ = some (.int .i64 n_B21) ∧ w18.cell? ⟨b7, 3, none⟩ = some (.int .i64 n_C22) ∧ w18.cell? ⟨b7, 4, none⟩ = some (.int .i64 n_X23) ∧
 Calls Tryz.prog fn_ir_Outs #[.agg #[.int .i64 n_Op19, .int .i64 n_A20, .int .i64 n_B21, .int .i64 n_C22, .int .i64 n_X23]] w18 fun e24 w25 => ∃ s26 : Sl, e24 = .returned (s26.val) ∧
 ∃ (I1 : Int → World → Prop) (μ1 : Int → World → Nat), I1 (0 : Int) w25 ∧ ∀ (n28 : Int) (w27 : World), I1 n28 w27 →
 brB (decide (n28 < (s26.len : Int)))
 (∃ a29 : Addr, s26.ptr = some a29 ∧ 0 ≤ n28 ∧ n28 < (s26.len : Int) ∧
 ∃ n30 : Int, w27.cell? (Addr.add a29 (Int.toNat n28 * 1)) = some (.int .i64 n30) ∧
 Calls Tryz.prog fn_prune_need_exit #[.pointer (some ⟨n_1, 0, none⟩), .int .i64 n30] w27 fun e31 w32 => e31 = .returned (.tuple #[]) ∧
 I1 (wr (n28 + (1 : Int))) w32 ∧ μ1 (wr (n28 + (1 : Int))) w32 < μ1 n28 w27)
 (K (.tuple #[]) w27)
def prune_need_all_an : An := ⟨[(3, [(13, .int .i64)])], [], []⟩
theorem prune_need_all_lift {n_1 : Nat} {i__Op2 : Int} {i__A3 : Int} {i__B4 : Int} {i__C5 : Int} {i__X6 : Int} {w : World} {K : Value → World → Prop} (h : prune_need_all_sh n_1 i__Op2 i__A3 i__B4 i__C5 i__X6 w K) : Calls Tryz.prog fn_prune_need_all #[.pointer (some ⟨n_1, 0, none⟩), .agg #[.int .i64 i__Op2, .int .i64 i__A3, .int .i64 i__B4, .int .i64 i__C5, .int .i64 i__X6]] w fun e w' => ∃ v, e = .returned v ∧ K v w' :=
   lift_calls (A := prune_need_all_an) (c := bodyOf Tryz.f84) (args := [.pointer (some ⟨n_1, 0, none⟩), .agg #[.int .i64 i__Op2, .int .i64 i__A3, .int .i64 i__B4, .int .i64 i__C5, .int .i64 i__X6]]) orc orc_wide Tryz.func84 (by kernel_rfl) (by kernel_rfl) (Eq.mp (by kernel_rfl : prune_need_all_sh n_1 i__Op2 i__A3 i__B4 i__C5 i__X6 w K = wpc orc Tryz.f84.ntmps prune_need_all_an (bodyOf Tryz.f84) (argl 0 [.pointer (some ⟨n_1, 0, none⟩), .agg #[.int .i64 i__Op2, .int .i64 i__A3, .int .i64 i__B4, .int .i64 i__C5, .int .i64 i__X6]]) w (retQ orc Tryz.f84.results.toList K)) h)

-- holloway/prune.renamed
def prune_renamed_sh (i__Op1 : Int) (i__A2 : Int) (i__B3 : Int) (i__C4 : Int) (i__X5 : Int) (exits6 : Sl) (w : World) (K : Value → World → Prop) : Prop :=
 ∀ (b7 : Nat) (w8 : World), b7 = w.heap.size → w8 = World.alloc w (.cells #[.int .i64 i__Op1, .int .i64 i__A2, .int .i64 i__B3, .int .i64 i__C4, .int .i64 i__X5] T_api_Ins) →
 ∀ (b9 : Nat) (w10 : World), b9 = w8.heap.size → w10 = World.alloc w8 (.cells #[.int .i64 (0 : Int), .int .i64 (0 : Int), .int .i64 (0 : Int), .int .i64 (0 : Int), .int .i64 (0 : Int)] T_api_Ins) →
 ∃ J2 : World → Prop, (∀ (w30 : World), J2  w30 →
 ∃ n_Op31 : Int, ∃ n_A32 : Int, ∃ n_B33 : Int, ∃ n_C34 : Int, ∃ n_X35 : Int, w30.cell? ⟨b7, 0, none⟩ = some (.int .i64 n_Op31) ∧ w30.cell? ⟨b7, 1, none⟩ = some (.int .i64 n_A32) ∧ w30.cell? ⟨b7, 2, none⟩ = some (.int .i64 n_B33) ∧ w30.cell? ⟨b7, 3, none⟩ = some (.int .i64 n_C34) ∧ w30.cell? ⟨b7, 4, none⟩ = some (.int .i64 n_X35) ∧
 wrOk w30 ⟨b9, 0, none⟩ 5 ∧ ∀ w36 : World, w36 = stW w30 ⟨b9, 0, none⟩ 0 [.int .i64 n_Op31, .int .i64 n_A32, .int .i64 n_B33, .int .i64 n_C34, .int .i64 n_X35] →
 ∃ r_Op37 : Int, ∃ r_A38 : Int, ∃ r_B39 : Int, ∃ r_C40 : Int, ∃ r_X41 : Int, w36.cell? ⟨b9, 0, none⟩ = some (.int .i64 r_Op37) ∧ w36.cell? ⟨b9, 1, none⟩ = some (.int .i64 r_A38) ∧ w36.cell? ⟨b9, 2, none⟩ = some (.int .i64 r_B39) ∧ w36.cell? ⟨b9, 3, none⟩ = some (.int .i64 r_C40) ∧ w36.cell? ⟨b9, 4, none⟩ = some (.int .i64 r_X41) ∧
 K (.agg #[.int .i64 r_Op37, .int .i64 r_A38, .int .i64 r_B39, .int .i64 r_C40, .int .i64 r_X41]) w36) ∧
 ∃ n_Op11 : Int, ∃ n_A12 : Int, ∃ n_B13 : Int, ∃ n_C14 : Int, ∃ n_X15 : Int, w10.cell? ⟨b7, 0, none⟩ = some (.int .i64 n_Op11) ∧ w10.cell? ⟨b7, 1, none⟩ = some (.int .i64 n_A12) ∧ w10.cell? ⟨b7, 2, none⟩ = some (.int .i64 n_B13) ∧ w10.cell? ⟨b7, 3, none⟩ = some (.int .i64 n_C14) ∧ w10.cell? ⟨b7, 4, none⟩ = some (.int .i64 n_X15) ∧
 Calls Tryz.prog fn_ir_Outs #[.agg #[.int .i64 n_Op11, .int .i64 n_A12, .int .i64 n_B13, .int .i64 n_C14, .int .i64 n_X15]] w10 fun e16 w17 => ∃ s18 : Sl, e16 = .returned (s18.val) ∧
 ∃ J4 : World → Prop, (∀ (w24 : World), J4  w24 →
 ∃ n25 : Int, w24.cell? ⟨b7, 4, none⟩ = some (.int .i64 n25) ∧
 Calls Tryz.prog fn_fold_Map_Of #[exits6.val, .int .i64 n25] w24 fun e26 w27 => ∃ n28 : Int, e26 = .returned (.int .i64 n28) ∧
 wrOk w27 ⟨b7, 4, none⟩ 1 ∧ ∀ w29 : World, w29 = stW w27 ⟨b7, 4, none⟩ 0 [.int .i64 n28] →
 J2  w29) ∧
 brB ((s18.len : Int) == (2 : Int))
 (∃ n19 : Int, w17.cell? ⟨b7, 1, none⟩ = some (.int .i64 n19) ∧
 Calls Tryz.prog fn_fold_Map_Of #[exits6.val, .int .i64 n19] w17 fun e20 w21 => ∃ n22 : Int, e20 = .returned (.int .i64 n22) ∧
 wrOk w21 ⟨b7, 1, none⟩ 1 ∧ ∀ w23 : World, w23 = stW w21 ⟨b7, 1, none⟩ 0 [.int .i64 n22] →
 J4  w23)
 (brB ((s18.len : Int) == (1 : Int))
 (J4  w17)
 (J2  w17))
def prune_renamed_an : An := ⟨[], [], [(5, []), (6, [])]⟩
theorem prune_renamed_lift {i__Op1 : Int} {i__A2 : Int} {i__B3 : Int} {i__C4 : Int} {i__X5 : Int} {exits6 : Sl} {w : World} {K : Value → World → Prop} (h : prune_renamed_sh i__Op1 i__A2 i__B3 i__C4 i__X5 exits6 w K) : Calls Tryz.prog fn_prune_renamed #[.agg #[.int .i64 i__Op1, .int .i64 i__A2, .int .i64 i__B3, .int .i64 i__C4, .int .i64 i__X5], exits6.val] w fun e w' => ∃ v, e = .returned v ∧ K v w' :=
   lift_calls (A := prune_renamed_an) (c := bodyOf Tryz.f86) (args := [.agg #[.int .i64 i__Op1, .int .i64 i__A2, .int .i64 i__B3, .int .i64 i__C4, .int .i64 i__X5], exits6.val]) orc orc_wide Tryz.func86 (by kernel_rfl) (by kernel_rfl) (Eq.mp (by kernel_rfl : prune_renamed_sh i__Op1 i__A2 i__B3 i__C4 i__X5 exits6 w K = wpc orc Tryz.f86.ntmps prune_renamed_an (bodyOf Tryz.f86) (argl 0 [.agg #[.int .i64 i__Op1, .int .i64 i__A2, .int .i64 i__B3, .int .i64 i__C4, .int .i64 i__X5], exits6.val]) w (retQ orc Tryz.f86.results.toList K)) h)

-- (*holloway/prune.need).exit
def prune_need_exit_sh (n_1 : Nat) (x_2 : Int) (w : World) (K : Value → World → Prop) : Prop :=
 ∃ s3 : Sl, w.cell? ⟨n_1, 10, none⟩ = some (s3.val) ∧
 ∃ a4 : Addr, s3.ptr = some a4 ∧ 0 ≤ x_2 ∧ x_2 < (s3.len : Int) ∧
 ∃ b5 : Bool, w.cell? (Addr.add a4 (Int.toNat x_2 * 1)) = some (.bool b5) ∧
 brB (!b5)
 (∃ s6 : Sl, w.cell? ⟨n_1, 10, none⟩ = some (s6.val) ∧
 ∃ a7 : Addr, s6.ptr = some a7 ∧ 0 ≤ x_2 ∧ x_2 < (s6.len : Int) ∧
 wrOk w (Addr.add a7 (Int.toNat x_2 * 1)) 1 ∧ ∀ w8 : World, w8 = stW w (Addr.add a7 (Int.toNat x_2 * 1)) 0 [.bool true] →
 ∃ s9 : Sl, w8.cell? ⟨n_1, 6, none⟩ = some (s9.val) ∧
 ∃ a10 : Addr, s9.ptr = some a10 ∧ 0 ≤ x_2 ∧ x_2 < (s9.len : Int) ∧
 ∃ s11 : Sl, w8.cell? (Addr.add (Addr.add a10 (Int.toNat x_2 * 4)) 2) = some (s11.val) ∧
 Calls Tryz.prog fn_prune_need_places #[.pointer (some ⟨n_1, 0, none⟩), s11.val] w8 fun e12 w13 => e12 = .returned (.tuple #[]) ∧
 ∃ s14 : Sl, w13.cell? ⟨n_1, 6, none⟩ = some (s14.val) ∧
 ∃ a15 : Addr, s14.ptr = some a15 ∧ 0 ≤ x_2 ∧ x_2 < (s14.len : Int) ∧
 ∃ s16 : Sl, w13.cell? (Addr.add (Addr.add a15 (Int.toNat x_2 * 4)) 3) = some (s16.val) ∧
 Calls Tryz.prog fn_prune_need_places #[.pointer (some ⟨n_1, 0, none⟩), s16.val] w13 fun e17 w18 => e17 = .returned (.tuple #[]) ∧
 K (.tuple #[]) w18)
 (K (.tuple #[]) w)
def prune_need_exit_an : An := ⟨[], [], []⟩
theorem prune_need_exit_lift {n_1 : Nat} {x_2 : Int} {w : World} {K : Value → World → Prop} (h : prune_need_exit_sh n_1 x_2 w K) : Calls Tryz.prog fn_prune_need_exit #[.pointer (some ⟨n_1, 0, none⟩), .int .i64 x_2] w fun e w' => ∃ v, e = .returned v ∧ K v w' :=
   lift_calls (A := prune_need_exit_an) (c := bodyOf Tryz.f122) (args := [.pointer (some ⟨n_1, 0, none⟩), .int .i64 x_2]) orc orc_wide Tryz.func122 (by kernel_rfl) (by kernel_rfl) (Eq.mp (by kernel_rfl : prune_need_exit_sh n_1 x_2 w K = wpc orc Tryz.f122.ntmps prune_need_exit_an (bodyOf Tryz.f122) (argl 0 [.pointer (some ⟨n_1, 0, none⟩), .int .i64 x_2]) w (retQ orc Tryz.f122.results.toList K)) h)

-- (*holloway/prune.need).places
def prune_need_places_sh (n_1 : Nat) (l_2 : Sl) (w : World) (K : Value → World → Prop) : Prop :=
 ∃ (I1 : Int → World → Prop) (μ1 : Int → World → Nat), I1 (0 : Int) w ∧ ∀ (n4 : Int) (w3 : World), I1 n4 w3 →
 brB (decide (n4 < (l_2.len : Int)))
 (∃ a5 : Addr, l_2.ptr = some a5 ∧ 0 ≤ n4 ∧ n4 < (l_2.len : Int) ∧
 ∃ n6 : Int, w3.cell? (Addr.add a5 (Int.toNat n4 * 1)) = some (.int .i64 n6) ∧
 ∃ s7 : Sl, w3.cell? ⟨n_1, 9, none⟩ = some (s7.val) ∧
 ∃ a8 : Addr, s7.ptr = some a8 ∧ 0 ≤ n6 ∧ n6 < (s7.len : Int) ∧
 wrOk w3 (Addr.add a8 (Int.toNat n6 * 1)) 1 ∧ ∀ w9 : World, w9 = stW w3 (Addr.add a8 (Int.toNat n6 * 1)) 0 [.bool true] →
 I1 (wr (n4 + (1 : Int))) w9 ∧ μ1 (wr (n4 + (1 : Int))) w9 < μ1 n4 w3)
 (K (.tuple #[]) w3)
def prune_need_places_an : An := ⟨[(1, [(8, .int .i64)])], [], []⟩
theorem prune_need_places_lift {n_1 : Nat} {l_2 : Sl} {w : World} {K : Value → World → Prop} (h : prune_need_places_sh n_1 l_2 w K) : Calls Tryz.prog fn_prune_need_places #[.pointer (some ⟨n_1, 0, none⟩), l_2.val] w fun e w' => ∃ v, e = .returned v ∧ K v w' :=
   lift_calls (A := prune_need_places_an) (c := bodyOf Tryz.f123) (args := [.pointer (some ⟨n_1, 0, none⟩), l_2.val]) orc orc_wide Tryz.func123 (by kernel_rfl) (by kernel_rfl) (Eq.mp (by kernel_rfl : prune_need_places_sh n_1 l_2 w K = wpc orc Tryz.f123.ntmps prune_need_places_an (bodyOf Tryz.f123) (argl 0 [.pointer (some ⟨n_1, 0, none⟩), l_2.val]) w (retQ orc Tryz.f123.results.toList K)) h)

end Go.Proofs.YtblmoilneiffgaaGreat
