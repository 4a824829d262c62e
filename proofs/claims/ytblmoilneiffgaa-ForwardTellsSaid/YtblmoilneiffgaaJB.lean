/- The lifted texts of the packages ir, fold, forward, prune. -/
import Derived.Test.YtblmoilneiffgaaJ4

/- Functions of Ir, read without their frames; that each is enough. Printed by a program of mine (wip/lift/gen.py). -/
set_option maxRecDepth 100000
namespace Go.Proofs.Ytblmoilneiffgaa
open Go.RowKit

-- holloway/ir.Right
def ir_Right_sh (t__Start1 : Int) (t__Slots2 : Int) (t__Backs3 : Int) (t__Grow4 : Int) (t__GrowBack5 : Int) (t__Ins6 : Sl) (t__Outs7 : Sl) (t__Last8 : Int) (t__Cells9 : Sl) (w : World) (K : Value → World → Prop) : Prop :=
 ∀ (b10 : Nat) (w11 : World), b10 = w.heap.size → w11 = World.alloc w (.cells #[.int .i64 t__Start1, .int .i64 t__Slots2, .int .i64 t__Backs3, .int .i64 t__Grow4, .int .i64 t__GrowBack5, t__Ins6.val, t__Outs7.val, .int .i64 t__Last8, t__Cells9.val] T_api_Trace) →
 ∃ J3 : Bool → World → Prop, (∀ (b47 : Bool) (w46 : World), J3 b47 w46 →
 brB b47
 (K (.bool false) w46)
 (∃ s48 : Sl, w46.cell? ⟨b10, 6, none⟩ = some (s48.val) ∧
 ∃ (I1 : Int → World → Prop) (μ1 : Int → World → Nat), I1 (0 : Int) w46 ∧ ∀ (n50 : Int) (w49 : World), I1 n50 w49 →
 brB (decide (n50 < (s48.len : Int)))
 (∃ a51 : Addr, s48.ptr = some a51 ∧ 0 ≤ n50 ∧ n50 < (s48.len : Int) ∧
 ∃ n_Ip52 : Int, ∃ n_Steps53 : Int, ∃ s_Stack54 : Sl, ∃ s_Back55 : Sl, w49.cell? (Addr.add a51 (Int.toNat n50 * 4)) = some (.int .i64 n_Ip52) ∧ w49.cell? (Addr.add (Addr.add a51 (Int.toNat n50 * 4)) 1) = some (.int .i64 n_Steps53) ∧ w49.cell? (Addr.add (Addr.add a51 (Int.toNat n50 * 4)) 2) = some (s_Stack54.val) ∧ w49.cell? (Addr.add (Addr.add a51 (Int.toNat n50 * 4)) 3) = some (s_Back55.val) ∧
 ∀ (b56 : Nat) (w57 : World), b56 = w49.heap.size → w57 = World.alloc w49 (.cells #[.int .i64 (0 : Int), .int .i64 (0 : Int), .slice none 0 0, .slice none 0 0] T_api_Out) →
 wrOk w57 ⟨b56, 0, none⟩ 4 ∧ ∀ w58 : World, w58 = stW w57 ⟨b56, 0, none⟩ 0 [.int .i64 n_Ip52, .int .i64 n_Steps53, s_Stack54.val, s_Back55.val] →
 ∃ n_Start59 : Int, ∃ n_Slots60 : Int, ∃ n_Backs61 : Int, ∃ n_Grow62 : Int, ∃ n_GrowBack63 : Int, ∃ s_Ins64 : Sl, ∃ s_Outs65 : Sl, ∃ n_Last66 : Int, ∃ s_Cells67 : Sl, w58.cell? ⟨b10, 0, none⟩ = some (.int .i64 n_Start59) ∧ w58.cell? ⟨b10, 1, none⟩ = some (.int .i64 n_Slots60) ∧ w58.cell? ⟨b10, 2, none⟩ = some (.int .i64 n_Backs61) ∧ w58.cell? ⟨b10, 3, none⟩ = some (.int .i64 n_Grow62) ∧ w58.cell? ⟨b10, 4, none⟩ = some (.int .i64 n_GrowBack63) ∧ w58.cell? ⟨b10, 5, none⟩ = some (s_Ins64.val) ∧ w58.cell? ⟨b10, 6, none⟩ = some (s_Outs65.val) ∧ w58.cell? ⟨b10, 7, none⟩ = some (.int .i64 n_Last66) ∧ w58.cell? ⟨b10, 8, none⟩ = some (s_Cells67.val) ∧
 ∃ n_Ip68 : Int, ∃ n_Steps69 : Int, ∃ s_Stack70 : Sl, ∃ s_Back71 : Sl, w58.cell? ⟨b56, 0, none⟩ = some (.int .i64 n_Ip68) ∧ w58.cell? ⟨b56, 1, none⟩ = some (.int .i64 n_Steps69) ∧ w58.cell? ⟨b56, 2, none⟩ = some (s_Stack70.val) ∧ w58.cell? ⟨b56, 3, none⟩ = some (s_Back71.val) ∧
 Calls Try.prog fn_ir_out #[.agg #[.int .i64 n_Start59, .int .i64 n_Slots60, .int .i64 n_Backs61, .int .i64 n_Grow62, .int .i64 n_GrowBack63, s_Ins64.val, s_Outs65.val, .int .i64 n_Last66, s_Cells67.val], .agg #[.int .i64 n_Ip68, .int .i64 n_Steps69, s_Stack70.val, s_Back71.val]] w58 fun e72 w73 => ∃ b74 : Bool, e72 = .returned (.bool b74) ∧
 brB (!b74)
 (K (.bool false) w73)
 (I1 (wr (n50 + (1 : Int))) w73 ∧ μ1 (wr (n50 + (1 : Int))) w73 < μ1 n50 w49))
 (∃ s75 : Sl, w49.cell? ⟨b10, 5, none⟩ = some (s75.val) ∧
 ∃ (I2 : Int → World → Prop) (μ2 : Int → World → Nat), I2 (0 : Int) w49 ∧ ∀ (n77 : Int) (w76 : World), I2 n77 w76 →
 brB (decide (n77 < (s75.len : Int)))
 (∃ a78 : Addr, s75.ptr = some a78 ∧ 0 ≤ n77 ∧ n77 < (s75.len : Int) ∧
 ∃ n_Op79 : Int, ∃ n_A80 : Int, ∃ n_B81 : Int, ∃ n_C82 : Int, ∃ n_X83 : Int, w76.cell? (Addr.add a78 (Int.toNat n77 * 5)) = some (.int .i64 n_Op79) ∧ w76.cell? (Addr.add (Addr.add a78 (Int.toNat n77 * 5)) 1) = some (.int .i64 n_A80) ∧ w76.cell? (Addr.add (Addr.add a78 (Int.toNat n77 * 5)) 2) = some (.int .i64 n_B81) ∧ w76.cell? (Addr.add (Addr.add a78 (Int.toNat n77 * 5)) 3) = some (.int .i64 n_C82) ∧ w76.cell? (Addr.add (Addr.add a78 (Int.toNat n77 * 5)) 4) = some (.int .i64 n_X83) ∧
 ∀ (b84 : Nat) (w85 : World), b84 = w76.heap.size → w85 = World.alloc w76 (.cells #[.int .i64 (0 : Int), .int .i64 (0 : Int), .int .i64 (0 : Int), .int .i64 (0 : Int), .int .i64 (0 : Int)] T_api_Ins) →
 wrOk w85 ⟨b84, 0, none⟩ 5 ∧ ∀ w86 : World, w86 = stW w85 ⟨b84, 0, none⟩ 0 [.int .i64 n_Op79, .int .i64 n_A80, .int .i64 n_B81, .int .i64 n_C82, .int .i64 n_X83] →
 ∃ J20 : Bool → World → Prop, (∀ (b127 : Bool) (w126 : World), J20 b127 w126 →
 brB b127
 (K (.bool false) w126)
 (∃ n_Op128 : Int, ∃ n_A129 : Int, ∃ n_B130 : Int, ∃ n_C131 : Int, ∃ n_X132 : Int, w126.cell? ⟨b84, 0, none⟩ = some (.int .i64 n_Op128) ∧ w126.cell? ⟨b84, 1, none⟩ = some (.int .i64 n_A129) ∧ w126.cell? ⟨b84, 2, none⟩ = some (.int .i64 n_B130) ∧ w126.cell? ⟨b84, 3, none⟩ = some (.int .i64 n_C131) ∧ w126.cell? ⟨b84, 4, none⟩ = some (.int .i64 n_X132) ∧
 Calls Try.prog fn_ir_Outs #[.agg #[.int .i64 n_Op128, .int .i64 n_A129, .int .i64 n_B130, .int .i64 n_C131, .int .i64 n_X132]] w126 fun e133 w134 => ∃ s135 : Sl, e133 = .returned (s135.val) ∧
 ∃ (I3 : Int → World → Prop) (μ3 : Int → World → Nat), I3 (0 : Int) w134 ∧ ∀ (n137 : Int) (w136 : World), I3 n137 w136 →
 brB (decide (n137 < (s135.len : Int)))
 (∃ a138 : Addr, s135.ptr = some a138 ∧ 0 ≤ n137 ∧ n137 < (s135.len : Int) ∧
 ∃ n139 : Int, w136.cell? (Addr.add a138 (Int.toNat n137 * 1)) = some (.int .i64 n139) ∧
 ∃ n_Start140 : Int, ∃ n_Slots141 : Int, ∃ n_Backs142 : Int, ∃ n_Grow143 : Int, ∃ n_GrowBack144 : Int, ∃ s_Ins145 : Sl, ∃ s_Outs146 : Sl, ∃ n_Last147 : Int, ∃ s_Cells148 : Sl, w136.cell? ⟨b10, 0, none⟩ = some (.int .i64 n_Start140) ∧ w136.cell? ⟨b10, 1, none⟩ = some (.int .i64 n_Slots141) ∧ w136.cell? ⟨b10, 2, none⟩ = some (.int .i64 n_Backs142) ∧ w136.cell? ⟨b10, 3, none⟩ = some (.int .i64 n_Grow143) ∧ w136.cell? ⟨b10, 4, none⟩ = some (.int .i64 n_GrowBack144) ∧ w136.cell? ⟨b10, 5, none⟩ = some (s_Ins145.val) ∧ w136.cell? ⟨b10, 6, none⟩ = some (s_Outs146.val) ∧ w136.cell? ⟨b10, 7, none⟩ = some (.int .i64 n_Last147) ∧ w136.cell? ⟨b10, 8, none⟩ = some (s_Cells148.val) ∧
 Calls Try.prog fn_ir_named #[.agg #[.int .i64 n_Start140, .int .i64 n_Slots141, .int .i64 n_Backs142, .int .i64 n_Grow143, .int .i64 n_GrowBack144, s_Ins145.val, s_Outs146.val, .int .i64 n_Last147, s_Cells148.val], .int .i64 n139, .int .i64 n77] w136 fun e149 w150 => ∃ b151 : Bool, e149 = .returned (.bool b151) ∧
 brB (!b151)
 (K (.bool false) w150)
 (I3 (wr (n137 + (1 : Int))) w150 ∧ μ3 (wr (n137 + (1 : Int))) w150 < μ3 n137 w136))
 (I2 (wr (n77 + (1 : Int))) w136 ∧ μ2 (wr (n77 + (1 : Int))) w136 < μ2 n77 w76))) ∧
 ∀ w87 : World, w87 = World.drew w86 →
 ∃ S88 : World → Prop, S88 w87 ∧
 ∃ n_Start89 : Int, ∃ n_Slots90 : Int, ∃ n_Backs91 : Int, ∃ n_Grow92 : Int, ∃ n_GrowBack93 : Int, ∃ s_Ins94 : Sl, ∃ s_Outs95 : Sl, ∃ n_Last96 : Int, ∃ s_Cells97 : Sl, held S88 ⟨b10, 0, none⟩ (.int .i64 n_Start89) ∧ held S88 ⟨b10, 1, none⟩ (.int .i64 n_Slots90) ∧ held S88 ⟨b10, 2, none⟩ (.int .i64 n_Backs91) ∧ held S88 ⟨b10, 3, none⟩ (.int .i64 n_Grow92) ∧ held S88 ⟨b10, 4, none⟩ (.int .i64 n_GrowBack93) ∧ held S88 ⟨b10, 5, none⟩ (s_Ins94.val) ∧ held S88 ⟨b10, 6, none⟩ (s_Outs95.val) ∧ held S88 ⟨b10, 7, none⟩ (.int .i64 n_Last96) ∧ held S88 ⟨b10, 8, none⟩ (s_Cells97.val) ∧
 ∃ n_Op98 : Int, ∃ n_A99 : Int, ∃ n_B100 : Int, ∃ n_C101 : Int, ∃ n_X102 : Int, held S88 ⟨b84, 0, none⟩ (.int .i64 n_Op98) ∧ held S88 ⟨b84, 1, none⟩ (.int .i64 n_A99) ∧ held S88 ⟨b84, 2, none⟩ (.int .i64 n_B100) ∧ held S88 ⟨b84, 3, none⟩ (.int .i64 n_C101) ∧ held S88 ⟨b84, 4, none⟩ (.int .i64 n_X102) ∧
 Calls Try.prog fn_ir_single #[.agg #[.int .i64 n_Start89, .int .i64 n_Slots90, .int .i64 n_Backs91, .int .i64 n_Grow92, .int .i64 n_GrowBack93, s_Ins94.val, s_Outs95.val, .int .i64 n_Last96, s_Cells97.val], .agg #[.int .i64 n_Op98, .int .i64 n_A99, .int .i64 n_B100, .int .i64 n_C101, .int .i64 n_X102]] w87 fun e103 w104 => ∃ b105 : Bool, e103 = .returned (.bool b105) ∧
 S88 w104 ∧
 brB (!b105)
 (J20 true w104)
 (∃ n_Start106 : Int, ∃ n_Slots107 : Int, ∃ n_Backs108 : Int, ∃ n_Grow109 : Int, ∃ n_GrowBack110 : Int, ∃ s_Ins111 : Sl, ∃ s_Outs112 : Sl, ∃ n_Last113 : Int, ∃ s_Cells114 : Sl, held S88 ⟨b10, 0, none⟩ (.int .i64 n_Start106) ∧ held S88 ⟨b10, 1, none⟩ (.int .i64 n_Slots107) ∧ held S88 ⟨b10, 2, none⟩ (.int .i64 n_Backs108) ∧ held S88 ⟨b10, 3, none⟩ (.int .i64 n_Grow109) ∧ held S88 ⟨b10, 4, none⟩ (.int .i64 n_GrowBack110) ∧ held S88 ⟨b10, 5, none⟩ (s_Ins111.val) ∧ held S88 ⟨b10, 6, none⟩ (s_Outs112.val) ∧ held S88 ⟨b10, 7, none⟩ (.int .i64 n_Last113) ∧ held S88 ⟨b10, 8, none⟩ (s_Cells114.val) ∧
 ∃ n_Op115 : Int, ∃ n_A116 : Int, ∃ n_B117 : Int, ∃ n_C118 : Int, ∃ n_X119 : Int, held S88 ⟨b84, 0, none⟩ (.int .i64 n_Op115) ∧ held S88 ⟨b84, 1, none⟩ (.int .i64 n_A116) ∧ held S88 ⟨b84, 2, none⟩ (.int .i64 n_B117) ∧ held S88 ⟨b84, 3, none⟩ (.int .i64 n_C118) ∧ held S88 ⟨b84, 4, none⟩ (.int .i64 n_X119) ∧
 Calls Try.prog fn_ir_Uses #[.agg #[.int .i64 n_Op115, .int .i64 n_A116, .int .i64 n_B117, .int .i64 n_C118, .int .i64 n_X119]] w104 fun e120 w121 => ∃ s122 : Sl, e120 = .returned (s122.val) ∧
 S88 w121 ∧
 Calls Try.prog fn_ir_places #[.agg #[.int .i64 n_Start106, .int .i64 n_Slots107, .int .i64 n_Backs108, .int .i64 n_Grow109, .int .i64 n_GrowBack110, s_Ins111.val, s_Outs112.val, .int .i64 n_Last113, s_Cells114.val], s122.val, .int .i64 n77] w121 fun e123 w124 => ∃ b125 : Bool, e123 = .returned (.bool b125) ∧
 J20 (!b125) w124))
 (K (.bool true) w76)))) ∧
 ∃ n_Start12 : Int, ∃ n_Slots13 : Int, ∃ n_Backs14 : Int, ∃ n_Grow15 : Int, ∃ n_GrowBack16 : Int, ∃ s_Ins17 : Sl, ∃ s_Outs18 : Sl, ∃ n_Last19 : Int, ∃ s_Cells20 : Sl, w11.cell? ⟨b10, 0, none⟩ = some (.int .i64 n_Start12) ∧ w11.cell? ⟨b10, 1, none⟩ = some (.int .i64 n_Slots13) ∧ w11.cell? ⟨b10, 2, none⟩ = some (.int .i64 n_Backs14) ∧ w11.cell? ⟨b10, 3, none⟩ = some (.int .i64 n_Grow15) ∧ w11.cell? ⟨b10, 4, none⟩ = some (.int .i64 n_GrowBack16) ∧ w11.cell? ⟨b10, 5, none⟩ = some (s_Ins17.val) ∧ w11.cell? ⟨b10, 6, none⟩ = some (s_Outs18.val) ∧ w11.cell? ⟨b10, 7, none⟩ = some (.int .i64 n_Last19) ∧ w11.cell? ⟨b10, 8, none⟩ = some (s_Cells20.val) ∧
 Calls Try.prog fn_ir_head #[.agg #[.int .i64 n_Start12, .int .i64 n_Slots13, .int .i64 n_Backs14, .int .i64 n_Grow15, .int .i64 n_GrowBack16, s_Ins17.val, s_Outs18.val, .int .i64 n_Last19, s_Cells20.val]] w11 fun e21 w22 => ∃ b23 : Bool, e21 = .returned (.bool b23) ∧
 brB (!b23)
 (J3 true w22)
 (∃ s24 : Sl, w22.cell? ⟨b10, 8, none⟩ = some (s24.val) ∧
 Calls Try.prog fn_ir_cells #[s24.val] w22 fun e25 w26 => ∃ b27 : Bool, e25 = .returned (.bool b27) ∧
 brB (!b27)
 (J3 true w26)
 (∃ n_Start28 : Int, ∃ n_Slots29 : Int, ∃ n_Backs30 : Int, ∃ n_Grow31 : Int, ∃ n_GrowBack32 : Int, ∃ s_Ins33 : Sl, ∃ s_Outs34 : Sl, ∃ n_Last35 : Int, ∃ s_Cells36 : Sl, w26.cell? ⟨b10, 0, none⟩ = some (.int .i64 n_Start28) ∧ w26.cell? ⟨b10, 1, none⟩ = some (.int .i64 n_Slots29) ∧ w26.cell? ⟨b10, 2, none⟩ = some (.int .i64 n_Backs30) ∧ w26.cell? ⟨b10, 3, none⟩ = some (.int .i64 n_Grow31) ∧ w26.cell? ⟨b10, 4, none⟩ = some (.int .i64 n_GrowBack32) ∧ w26.cell? ⟨b10, 5, none⟩ = some (s_Ins33.val) ∧ w26.cell? ⟨b10, 6, none⟩ = some (s_Outs34.val) ∧ w26.cell? ⟨b10, 7, none⟩ = some (.int .i64 n_Last35) ∧ w26.cell? ⟨b10, 8, none⟩ = some (s_Cells36.val) ∧
 ∃ n37 : Int, w26.cell? ⟨b10, 7, none⟩ = some (.int .i64 n37) ∧
 ∃ s38 : Sl, w26.cell? ⟨b10, 5, none⟩ = some (s38.val) ∧
 Calls Try.prog fn_ir_named #[.agg #[.int .i64 n_Start28, .int .i64 n_Slots29, .int .i64 n_Backs30, .int .i64 n_Grow31, .int .i64 n_GrowBack32, s_Ins33.val, s_Outs34.val, .int .i64 n_Last35, s_Cells36.val], .int .i64 n37, .int .i64 (s38.len : Int)] w26 fun e39 w40 => ∃ b41 : Bool, e39 = .returned (.bool b41) ∧
 brB (!b41)
 (J3 true w40)
 (∃ s42 : Sl, w40.cell? ⟨b10, 6, none⟩ = some (s42.val) ∧
 ∃ n43 : Int, w40.cell? ⟨b10, 7, none⟩ = some (.int .i64 n43) ∧
 ∃ a44 : Addr, s42.ptr = some a44 ∧ 0 ≤ n43 ∧ n43 < (s42.len : Int) ∧
 ∃ n45 : Int, w40.cell? (Addr.add (Addr.add a44 (Int.toNat n43 * 4)) 1) = some (.int .i64 n45) ∧
 J3 (decide (n45 < (1 : Int))) w40)))
def ir_Right_an : An := ⟨[(4, [(41, .int .i64)]), (10, [(53, .int .i64)]), (15, [(73, .int .i64)])], [(12, (9, .st 0 (.st 1 (.ef 2 (.st 3 (.st 4 (.st 5 (.st 6 (.st 8 (.ef 7 .done)))))))), 1))], [(2, [(37, .bool)]), (13, [(69, .bool)])]⟩
theorem ir_Right_lift {t__Start1 : Int} {t__Slots2 : Int} {t__Backs3 : Int} {t__Grow4 : Int} {t__GrowBack5 : Int} {t__Ins6 : Sl} {t__Outs7 : Sl} {t__Last8 : Int} {t__Cells9 : Sl} {w : World} {K : Value → World → Prop} (h : ir_Right_sh t__Start1 t__Slots2 t__Backs3 t__Grow4 t__GrowBack5 t__Ins6 t__Outs7 t__Last8 t__Cells9 w K) : Calls Try.prog fn_ir_Right #[.agg #[.int .i64 t__Start1, .int .i64 t__Slots2, .int .i64 t__Backs3, .int .i64 t__Grow4, .int .i64 t__GrowBack5, t__Ins6.val, t__Outs7.val, .int .i64 t__Last8, t__Cells9.val]] w fun e w' => ∃ v, e = .returned v ∧ K v w' :=
   lift_calls (A := ir_Right_an) (c := bodyOf Try.f59) (args := [.agg #[.int .i64 t__Start1, .int .i64 t__Slots2, .int .i64 t__Backs3, .int .i64 t__Grow4, .int .i64 t__GrowBack5, t__Ins6.val, t__Outs7.val, .int .i64 t__Last8, t__Cells9.val]]) orc orc_wide Try.func59 (by kernel_rfl) (by kernel_rfl) (Eq.mp (by kernel_rfl : ir_Right_sh t__Start1 t__Slots2 t__Backs3 t__Grow4 t__GrowBack5 t__Ins6 t__Outs7 t__Last8 t__Cells9 w K = wpc orc Try.f59.ntmps ir_Right_an (bodyOf Try.f59) (argl 0 [.agg #[.int .i64 t__Start1, .int .i64 t__Slots2, .int .i64 t__Backs3, .int .i64 t__Grow4, .int .i64 t__GrowBack5, t__Ins6.val, t__Outs7.val, .int .i64 t__Last8, t__Cells9.val]]) w (retQ orc Try.f59.results.toList K)) h)

-- holloway/ir.head
def ir_head_sh (t__Start1 : Int) (t__Slots2 : Int) (t__Backs3 : Int) (t__Grow4 : Int) (t__GrowBack5 : Int) (t__Ins6 : Sl) (t__Outs7 : Sl) (t__Last8 : Int) (t__Cells9 : Sl) (w : World) (K : Value → World → Prop) : Prop :=
 ∀ (b10 : Nat) (w11 : World), b10 = w.heap.size → w11 = World.alloc w (.cells #[.int .i64 t__Start1, .int .i64 t__Slots2, .int .i64 t__Backs3, .int .i64 t__Grow4, .int .i64 t__GrowBack5, t__Ins6.val, t__Outs7.val, .int .i64 t__Last8, t__Cells9.val] T_api_Trace) →
 ∃ J2 : Bool → World → Prop, (∀ (numbers29 : Bool) (w28 : World), J2 numbers29 w28 →
 brB numbers29
 (∃ s30 : Sl, w28.cell? ⟨b10, 5, none⟩ = some (s30.val) ∧
 brB (decide ((s30.len : Int) ≤ (1000 : Int)))
 (∃ s31 : Sl, w28.cell? ⟨b10, 6, none⟩ = some (s31.val) ∧
 brB (decide ((s31.len : Int) ≤ (300 : Int)))
 (∃ n32 : Int, w28.cell? ⟨b10, 0, none⟩ = some (.int .i64 n32) ∧
 Calls Try.prog fn_ir_between #[.int .i64 n32, .int .i64 (0 : Int), .int .i64 (2999 : Int)] w28 fun e33 w34 => ∃ b35 : Bool, e33 = .returned (.bool b35) ∧
 K (.bool b35) w34)
 (K (.bool false) w28))
 (K (.bool false) w28))
 (K (.bool false) w28)) ∧
 ∃ n12 : Int, w11.cell? ⟨b10, 1, none⟩ = some (.int .i64 n12) ∧
 Calls Try.prog fn_ir_between #[.int .i64 n12, .int .i64 (0 : Int), .int .i64 (48 : Int)] w11 fun e13 w14 => ∃ b15 : Bool, e13 = .returned (.bool b15) ∧
 brB b15
 (∃ n16 : Int, w14.cell? ⟨b10, 3, none⟩ = some (.int .i64 n16) ∧
 Calls Try.prog fn_ir_between #[.int .i64 n16, .int .i64 (0 : Int), .int .i64 (48 : Int)] w14 fun e17 w18 => ∃ b19 : Bool, e17 = .returned (.bool b19) ∧
 brB b19
 (∃ n20 : Int, w18.cell? ⟨b10, 2, none⟩ = some (.int .i64 n20) ∧
 Calls Try.prog fn_ir_between #[.int .i64 n20, .int .i64 (0 : Int), .int .i64 (48 : Int)] w18 fun e21 w22 => ∃ b23 : Bool, e21 = .returned (.bool b23) ∧
 brB b23
 (∃ n24 : Int, w22.cell? ⟨b10, 4, none⟩ = some (.int .i64 n24) ∧
 Calls Try.prog fn_ir_between #[.int .i64 n24, .int .i64 (0 : Int), .int .i64 (48 : Int)] w22 fun e25 w26 => ∃ b27 : Bool, e25 = .returned (.bool b27) ∧
 J2 b27 w26)
 (J2 false w22))
 (J2 false w18))
 (J2 false w14)
def ir_head_an : An := ⟨[], [], [(2, [(3, .bool)])]⟩
theorem ir_head_lift {t__Start1 : Int} {t__Slots2 : Int} {t__Backs3 : Int} {t__Grow4 : Int} {t__GrowBack5 : Int} {t__Ins6 : Sl} {t__Outs7 : Sl} {t__Last8 : Int} {t__Cells9 : Sl} {w : World} {K : Value → World → Prop} (h : ir_head_sh t__Start1 t__Slots2 t__Backs3 t__Grow4 t__GrowBack5 t__Ins6 t__Outs7 t__Last8 t__Cells9 w K) : Calls Try.prog fn_ir_head #[.agg #[.int .i64 t__Start1, .int .i64 t__Slots2, .int .i64 t__Backs3, .int .i64 t__Grow4, .int .i64 t__GrowBack5, t__Ins6.val, t__Outs7.val, .int .i64 t__Last8, t__Cells9.val]] w fun e w' => ∃ v, e = .returned v ∧ K v w' :=
   lift_calls (A := ir_head_an) (c := bodyOf Try.f122) (args := [.agg #[.int .i64 t__Start1, .int .i64 t__Slots2, .int .i64 t__Backs3, .int .i64 t__Grow4, .int .i64 t__GrowBack5, t__Ins6.val, t__Outs7.val, .int .i64 t__Last8, t__Cells9.val]]) orc orc_wide Try.func122 (by kernel_rfl) (by kernel_rfl) (Eq.mp (by kernel_rfl : ir_head_sh t__Start1 t__Slots2 t__Backs3 t__Grow4 t__GrowBack5 t__Ins6 t__Outs7 t__Last8 t__Cells9 w K = wpc orc Try.f122.ntmps ir_head_an (bodyOf Try.f122) (argl 0 [.agg #[.int .i64 t__Start1, .int .i64 t__Slots2, .int .i64 t__Backs3, .int .i64 t__Grow4, .int .i64 t__GrowBack5, t__Ins6.val, t__Outs7.val, .int .i64 t__Last8, t__Cells9.val]]) w (retQ orc Try.f122.results.toList K)) h)

-- holloway/ir.cells
def ir_cells_sh (l_1 : Sl) (w : World) (K : Value → World → Prop) : Prop :=
 ∃ (I1 : Int → Int → World → Prop) (μ1 : Int → Int → World → Nat), I1 (-1 : Int) (0 : Int) w ∧ ∀ (last6 : Int) (n3 : Int) (w2 : World), I1 last6 n3 w2 →
 brB (decide (n3 < (l_1.len : Int)))
 (∃ a4 : Addr, l_1.ptr = some a4 ∧ 0 ≤ n3 ∧ n3 < (l_1.len : Int) ∧
 ∃ n5 : Int, w2.cell? (Addr.add a4 (Int.toNat n3 * 1)) = some (.int .i64 n5) ∧
 ∃ J10 : Bool → World → Prop, (∀ (b8 : Bool) (w7 : World), J10 b8 w7 →
 brB b8
 (K (.bool false) w7)
 (I1 n5 (wr (n3 + (1 : Int))) w7 ∧ μ1 n5 (wr (n3 + (1 : Int))) w7 < μ1 last6 n3 w2)) ∧
 brB (decide (n5 ≤ last6))
 (J10 true w2)
 (J10 (decide (n5 ≥ (3000 : Int))) w2))
 (K (.bool true) w2)
def ir_cells_an : An := ⟨[(3, [(3, .int .i64), (8, .int .i64)])], [], [(6, [(18, .bool)])]⟩
theorem ir_cells_lift {l_1 : Sl} {w : World} {K : Value → World → Prop} (h : ir_cells_sh l_1 w K) : Calls Try.prog fn_ir_cells #[l_1.val] w fun e w' => ∃ v, e = .returned v ∧ K v w' :=
   lift_calls (A := ir_cells_an) (c := bodyOf Try.f123) (args := [l_1.val]) orc orc_wide Try.func123 (by kernel_rfl) (by kernel_rfl) (Eq.mp (by kernel_rfl : ir_cells_sh l_1 w K = wpc orc Try.f123.ntmps ir_cells_an (bodyOf Try.f123) (argl 0 [l_1.val]) w (retQ orc Try.f123.results.toList K)) h)

-- holloway/ir.named
def ir_named_sh (t__Start1 : Int) (t__Slots2 : Int) (t__Backs3 : Int) (t__Grow4 : Int) (t__GrowBack5 : Int) (t__Ins6 : Sl) (t__Outs7 : Sl) (t__Last8 : Int) (t__Cells9 : Sl) (x_10 : Int) (at_11 : Int) (w : World) (K : Value → World → Prop) : Prop :=
 ∀ (b12 : Nat) (w13 : World), b12 = w.heap.size → w13 = World.alloc w (.cells #[.int .i64 t__Start1, .int .i64 t__Slots2, .int .i64 t__Backs3, .int .i64 t__Grow4, .int .i64 t__GrowBack5, t__Ins6.val, t__Outs7.val, .int .i64 t__Last8, t__Cells9.val] T_api_Trace) →
 ∀ w14 : World, w14 = World.drew w13 →
 ∃ S15 : World → Prop, S15 w14 ∧
 brB (decide (x_10 ≥ (0 : Int)))
 (∃ s16 : Sl, held S15 ⟨b12, 6, none⟩ (s16.val) ∧
 brB (decide (x_10 < (s16.len : Int)))
 (∃ n_Start17 : Int, ∃ n_Slots18 : Int, ∃ n_Backs19 : Int, ∃ n_Grow20 : Int, ∃ n_GrowBack21 : Int, ∃ s_Ins22 : Sl, ∃ s_Outs23 : Sl, ∃ n_Last24 : Int, ∃ s_Cells25 : Sl, held S15 ⟨b12, 0, none⟩ (.int .i64 n_Start17) ∧ held S15 ⟨b12, 1, none⟩ (.int .i64 n_Slots18) ∧ held S15 ⟨b12, 2, none⟩ (.int .i64 n_Backs19) ∧ held S15 ⟨b12, 3, none⟩ (.int .i64 n_Grow20) ∧ held S15 ⟨b12, 4, none⟩ (.int .i64 n_GrowBack21) ∧ held S15 ⟨b12, 5, none⟩ (s_Ins22.val) ∧ held S15 ⟨b12, 6, none⟩ (s_Outs23.val) ∧ held S15 ⟨b12, 7, none⟩ (.int .i64 n_Last24) ∧ held S15 ⟨b12, 8, none⟩ (s_Cells25.val) ∧
 ∃ s26 : Sl, held S15 ⟨b12, 6, none⟩ (s26.val) ∧
 ∃ a27 : Addr, s26.ptr = some a27 ∧ 0 ≤ x_10 ∧ x_10 < (s26.len : Int) ∧
 ∃ s28 : Sl, held S15 (Addr.add (Addr.add a27 (Int.toNat x_10 * 4)) 2) (s28.val) ∧
 Calls Try.prog fn_ir_places #[.agg #[.int .i64 n_Start17, .int .i64 n_Slots18, .int .i64 n_Backs19, .int .i64 n_Grow20, .int .i64 n_GrowBack21, s_Ins22.val, s_Outs23.val, .int .i64 n_Last24, s_Cells25.val], s28.val, .int .i64 at_11] w14 fun e29 w30 => ∃ b31 : Bool, e29 = .returned (.bool b31) ∧
 S15 w30 ∧
 brB b31
 (∃ n_Start32 : Int, ∃ n_Slots33 : Int, ∃ n_Backs34 : Int, ∃ n_Grow35 : Int, ∃ n_GrowBack36 : Int, ∃ s_Ins37 : Sl, ∃ s_Outs38 : Sl, ∃ n_Last39 : Int, ∃ s_Cells40 : Sl, held S15 ⟨b12, 0, none⟩ (.int .i64 n_Start32) ∧ held S15 ⟨b12, 1, none⟩ (.int .i64 n_Slots33) ∧ held S15 ⟨b12, 2, none⟩ (.int .i64 n_Backs34) ∧ held S15 ⟨b12, 3, none⟩ (.int .i64 n_Grow35) ∧ held S15 ⟨b12, 4, none⟩ (.int .i64 n_GrowBack36) ∧ held S15 ⟨b12, 5, none⟩ (s_Ins37.val) ∧ held S15 ⟨b12, 6, none⟩ (s_Outs38.val) ∧ held S15 ⟨b12, 7, none⟩ (.int .i64 n_Last39) ∧ held S15 ⟨b12, 8, none⟩ (s_Cells40.val) ∧
 ∃ s41 : Sl, held S15 ⟨b12, 6, none⟩ (s41.val) ∧
 ∃ a42 : Addr, s41.ptr = some a42 ∧ 0 ≤ x_10 ∧ x_10 < (s41.len : Int) ∧
 ∃ s43 : Sl, held S15 (Addr.add (Addr.add a42 (Int.toNat x_10 * 4)) 3) (s43.val) ∧
 Calls Try.prog fn_ir_places #[.agg #[.int .i64 n_Start32, .int .i64 n_Slots33, .int .i64 n_Backs34, .int .i64 n_Grow35, .int .i64 n_GrowBack36, s_Ins37.val, s_Outs38.val, .int .i64 n_Last39, s_Cells40.val], s43.val, .int .i64 at_11] w30 fun e44 w45 => ∃ b46 : Bool, e44 = .returned (.bool b46) ∧
 K (.bool b46) w45)
 (K (.bool false) w30))
 (K (.bool false) w14))
 (K (.bool false) w14)
def ir_named_an : An := ⟨[], [(1, (29, .st 0 (.st 1 (.st 2 (.st 3 (.st 4 (.st 5 (.st 6 (.st 7 (.st 8 (.st 9 (.st 10 (.st 11 (.st 12 (.st 13 (.st 14 (.st 15 (.st 16 (.st 17 (.ef 18 (.st 19 (.st 20 (.st 21 (.st 22 (.st 23 (.st 24 (.st 25 (.st 26 (.st 27 (.st 28 .done)))))))))))))))))))))))))))), 1))], []⟩
theorem ir_named_lift {t__Start1 : Int} {t__Slots2 : Int} {t__Backs3 : Int} {t__Grow4 : Int} {t__GrowBack5 : Int} {t__Ins6 : Sl} {t__Outs7 : Sl} {t__Last8 : Int} {t__Cells9 : Sl} {x_10 : Int} {at_11 : Int} {w : World} {K : Value → World → Prop} (h : ir_named_sh t__Start1 t__Slots2 t__Backs3 t__Grow4 t__GrowBack5 t__Ins6 t__Outs7 t__Last8 t__Cells9 x_10 at_11 w K) : Calls Try.prog fn_ir_named #[.agg #[.int .i64 t__Start1, .int .i64 t__Slots2, .int .i64 t__Backs3, .int .i64 t__Grow4, .int .i64 t__GrowBack5, t__Ins6.val, t__Outs7.val, .int .i64 t__Last8, t__Cells9.val], .int .i64 x_10, .int .i64 at_11] w fun e w' => ∃ v, e = .returned v ∧ K v w' :=
   lift_calls (A := ir_named_an) (c := bodyOf Try.f124) (args := [.agg #[.int .i64 t__Start1, .int .i64 t__Slots2, .int .i64 t__Backs3, .int .i64 t__Grow4, .int .i64 t__GrowBack5, t__Ins6.val, t__Outs7.val, .int .i64 t__Last8, t__Cells9.val], .int .i64 x_10, .int .i64 at_11]) orc orc_wide Try.func124 (by kernel_rfl) (by kernel_rfl) (Eq.mp (by kernel_rfl : ir_named_sh t__Start1 t__Slots2 t__Backs3 t__Grow4 t__GrowBack5 t__Ins6 t__Outs7 t__Last8 t__Cells9 x_10 at_11 w K = wpc orc Try.f124.ntmps ir_named_an (bodyOf Try.f124) (argl 0 [.agg #[.int .i64 t__Start1, .int .i64 t__Slots2, .int .i64 t__Backs3, .int .i64 t__Grow4, .int .i64 t__GrowBack5, t__Ins6.val, t__Outs7.val, .int .i64 t__Last8, t__Cells9.val], .int .i64 x_10, .int .i64 at_11]) w (retQ orc Try.f124.results.toList K)) h)

-- holloway/ir.out
def ir_out_sh (t__Start1 : Int) (t__Slots2 : Int) (t__Backs3 : Int) (t__Grow4 : Int) (t__GrowBack5 : Int) (t__Ins6 : Sl) (t__Outs7 : Sl) (t__Last8 : Int) (t__Cells9 : Sl) (x__Ip10 : Int) (x__Steps11 : Int) (x__Stack12 : Sl) (x__Back13 : Sl) (w : World) (K : Value → World → Prop) : Prop :=
 ∀ (b14 : Nat) (w15 : World), b14 = w.heap.size → w15 = World.alloc w (.cells #[.int .i64 t__Start1, .int .i64 t__Slots2, .int .i64 t__Backs3, .int .i64 t__Grow4, .int .i64 t__GrowBack5, t__Ins6.val, t__Outs7.val, .int .i64 t__Last8, t__Cells9.val] T_api_Trace) →
 ∀ (b16 : Nat) (w17 : World), b16 = w15.heap.size → w17 = World.alloc w15 (.cells #[.int .i64 x__Ip10, .int .i64 x__Steps11, x__Stack12.val, x__Back13.val] T_api_Out) →
 ∃ n18 : Int, w17.cell? ⟨b16, 1, none⟩ = some (.int .i64 n18) ∧
 Calls Try.prog fn_ir_between #[.int .i64 n18, .int .i64 (0 : Int), .int .i64 (120 : Int)] w17 fun e19 w20 => ∃ b21 : Bool, e19 = .returned (.bool b21) ∧
 brB b21
 (∃ n22 : Int, w20.cell? ⟨b16, 0, none⟩ = some (.int .i64 n22) ∧
 Calls Try.prog fn_ir_between #[.int .i64 n22, .int .i64 (0 : Int), .int .i64 (2999 : Int)] w20 fun e23 w24 => ∃ b25 : Bool, e23 = .returned (.bool b25) ∧
 brB b25
 (∃ s26 : Sl, w24.cell? ⟨b16, 2, none⟩ = some (s26.val) ∧
 ∃ n27 : Int, w24.cell? ⟨b14, 1, none⟩ = some (.int .i64 n27) ∧
 ∃ n28 : Int, w24.cell? ⟨b14, 3, none⟩ = some (.int .i64 n28) ∧
 brB (decide ((s26.len : Int) ≤ (wr (n27 + n28))))
 (∃ s29 : Sl, w24.cell? ⟨b16, 3, none⟩ = some (s29.val) ∧
 ∃ n30 : Int, w24.cell? ⟨b14, 2, none⟩ = some (.int .i64 n30) ∧
 ∃ n31 : Int, w24.cell? ⟨b14, 4, none⟩ = some (.int .i64 n31) ∧
 K (.bool (decide ((s29.len : Int) ≤ (wr (n30 + n31))))) w24)
 (K (.bool false) w24))
 (K (.bool false) w24))
 (K (.bool false) w20)
def ir_out_an : An := ⟨[], [], []⟩
theorem ir_out_lift {t__Start1 : Int} {t__Slots2 : Int} {t__Backs3 : Int} {t__Grow4 : Int} {t__GrowBack5 : Int} {t__Ins6 : Sl} {t__Outs7 : Sl} {t__Last8 : Int} {t__Cells9 : Sl} {x__Ip10 : Int} {x__Steps11 : Int} {x__Stack12 : Sl} {x__Back13 : Sl} {w : World} {K : Value → World → Prop} (h : ir_out_sh t__Start1 t__Slots2 t__Backs3 t__Grow4 t__GrowBack5 t__Ins6 t__Outs7 t__Last8 t__Cells9 x__Ip10 x__Steps11 x__Stack12 x__Back13 w K) : Calls Try.prog fn_ir_out #[.agg #[.int .i64 t__Start1, .int .i64 t__Slots2, .int .i64 t__Backs3, .int .i64 t__Grow4, .int .i64 t__GrowBack5, t__Ins6.val, t__Outs7.val, .int .i64 t__Last8, t__Cells9.val], .agg #[.int .i64 x__Ip10, .int .i64 x__Steps11, x__Stack12.val, x__Back13.val]] w fun e w' => ∃ v, e = .returned v ∧ K v w' :=
   lift_calls (A := ir_out_an) (c := bodyOf Try.f125) (args := [.agg #[.int .i64 t__Start1, .int .i64 t__Slots2, .int .i64 t__Backs3, .int .i64 t__Grow4, .int .i64 t__GrowBack5, t__Ins6.val, t__Outs7.val, .int .i64 t__Last8, t__Cells9.val], .agg #[.int .i64 x__Ip10, .int .i64 x__Steps11, x__Stack12.val, x__Back13.val]]) orc orc_wide Try.func125 (by kernel_rfl) (by kernel_rfl) (Eq.mp (by kernel_rfl : ir_out_sh t__Start1 t__Slots2 t__Backs3 t__Grow4 t__GrowBack5 t__Ins6 t__Outs7 t__Last8 t__Cells9 x__Ip10 x__Steps11 x__Stack12 x__Back13 w K = wpc orc Try.f125.ntmps ir_out_an (bodyOf Try.f125) (argl 0 [.agg #[.int .i64 t__Start1, .int .i64 t__Slots2, .int .i64 t__Backs3, .int .i64 t__Grow4, .int .i64 t__GrowBack5, t__Ins6.val, t__Outs7.val, .int .i64 t__Last8, t__Cells9.val], .agg #[.int .i64 x__Ip10, .int .i64 x__Steps11, x__Stack12.val, x__Back13.val]]) w (retQ orc Try.f125.results.toList K)) h)

-- holloway/ir.single
def ir_single_sh (t__Start1 : Int) (t__Slots2 : Int) (t__Backs3 : Int) (t__Grow4 : Int) (t__GrowBack5 : Int) (t__Ins6 : Sl) (t__Outs7 : Sl) (t__Last8 : Int) (t__Cells9 : Sl) (i__Op10 : Int) (i__A11 : Int) (i__B12 : Int) (i__C13 : Int) (i__X14 : Int) (w : World) (K : Value → World → Prop) : Prop :=
 ∀ (b15 : Nat) (w16 : World), b15 = w.heap.size → w16 = World.alloc w (.cells #[.int .i64 t__Start1, .int .i64 t__Slots2, .int .i64 t__Backs3, .int .i64 t__Grow4, .int .i64 t__GrowBack5, t__Ins6.val, t__Outs7.val, .int .i64 t__Last8, t__Cells9.val] T_api_Trace) →
 ∀ (b17 : Nat) (w18 : World), b17 = w16.heap.size → w18 = World.alloc w16 (.cells #[.int .i64 i__Op10, .int .i64 i__A11, .int .i64 i__B12, .int .i64 i__C13, .int .i64 i__X14] T_api_Ins) →
 ∃ n19 : Int, w18.cell? ⟨b17, 0, none⟩ = some (.int .i64 n19) ∧
 brB (n19 == (4 : Int))
 (∃ n20 : Int, w18.cell? ⟨b17, 1, none⟩ = some (.int .i64 n20) ∧
 Calls Try.prog fn_ir_two #[.int .i64 n20] w18 fun e21 w22 => ∃ b23 : Bool, e21 = .returned (.bool b23) ∧
 brB b23
 (K (.bool true) w22)
 (∃ n24 : Int, w22.cell? ⟨b17, 1, none⟩ = some (.int .i64 n24) ∧
 Calls Try.prog fn_ir_one #[.int .i64 n24] w22 fun e25 w26 => ∃ b27 : Bool, e25 = .returned (.bool b27) ∧
 K (.bool b27) w26))
 (brB (n19 == (2 : Int))
 (∃ n30 : Int, w18.cell? ⟨b17, 1, none⟩ = some (.int .i64 n30) ∧
 ∃ n31 : Int, w18.cell? ⟨b15, 1, none⟩ = some (.int .i64 n31) ∧
 Calls Try.prog fn_ir_between #[.int .i64 n30, .int .i64 (0 : Int), .int .i64 (wr (n31 - (1 : Int)))] w18 fun e32 w33 => ∃ b34 : Bool, e32 = .returned (.bool b34) ∧
 K (.bool b34) w33)
 (brB (n19 == (3 : Int))
 (∃ n35 : Int, w18.cell? ⟨b17, 1, none⟩ = some (.int .i64 n35) ∧
 ∃ n36 : Int, w18.cell? ⟨b15, 2, none⟩ = some (.int .i64 n36) ∧
 Calls Try.prog fn_ir_between #[.int .i64 n35, .int .i64 (0 : Int), .int .i64 (wr (n36 - (1 : Int)))] w18 fun e37 w38 => ∃ b39 : Bool, e37 = .returned (.bool b39) ∧
 K (.bool b39) w38)
 (∃ n40 : Int, w18.cell? ⟨b17, 0, none⟩ = some (.int .i64 n40) ∧
 Calls Try.prog fn_ir_between #[.int .i64 n40, .int .i64 (1 : Int), .int .i64 (12 : Int)] w18 fun e41 w42 => ∃ b43 : Bool, e41 = .returned (.bool b43) ∧
 K (.bool b43) w42)))
def ir_single_an : An := ⟨[], [], []⟩
theorem ir_single_lift {t__Start1 : Int} {t__Slots2 : Int} {t__Backs3 : Int} {t__Grow4 : Int} {t__GrowBack5 : Int} {t__Ins6 : Sl} {t__Outs7 : Sl} {t__Last8 : Int} {t__Cells9 : Sl} {i__Op10 : Int} {i__A11 : Int} {i__B12 : Int} {i__C13 : Int} {i__X14 : Int} {w : World} {K : Value → World → Prop} (h : ir_single_sh t__Start1 t__Slots2 t__Backs3 t__Grow4 t__GrowBack5 t__Ins6 t__Outs7 t__Last8 t__Cells9 i__Op10 i__A11 i__B12 i__C13 i__X14 w K) : Calls Try.prog fn_ir_single #[.agg #[.int .i64 t__Start1, .int .i64 t__Slots2, .int .i64 t__Backs3, .int .i64 t__Grow4, .int .i64 t__GrowBack5, t__Ins6.val, t__Outs7.val, .int .i64 t__Last8, t__Cells9.val], .agg #[.int .i64 i__Op10, .int .i64 i__A11, .int .i64 i__B12, .int .i64 i__C13, .int .i64 i__X14]] w fun e w' => ∃ v, e = .returned v ∧ K v w' :=
   lift_calls (A := ir_single_an) (c := bodyOf Try.f126) (args := [.agg #[.int .i64 t__Start1, .int .i64 t__Slots2, .int .i64 t__Backs3, .int .i64 t__Grow4, .int .i64 t__GrowBack5, t__Ins6.val, t__Outs7.val, .int .i64 t__Last8, t__Cells9.val], .agg #[.int .i64 i__Op10, .int .i64 i__A11, .int .i64 i__B12, .int .i64 i__C13, .int .i64 i__X14]]) orc orc_wide Try.func126 (by kernel_rfl) (by kernel_rfl) (Eq.mp (by kernel_rfl : ir_single_sh t__Start1 t__Slots2 t__Backs3 t__Grow4 t__GrowBack5 t__Ins6 t__Outs7 t__Last8 t__Cells9 i__Op10 i__A11 i__B12 i__C13 i__X14 w K = wpc orc Try.f126.ntmps ir_single_an (bodyOf Try.f126) (argl 0 [.agg #[.int .i64 t__Start1, .int .i64 t__Slots2, .int .i64 t__Backs3, .int .i64 t__Grow4, .int .i64 t__GrowBack5, t__Ins6.val, t__Outs7.val, .int .i64 t__Last8, t__Cells9.val], .agg #[.int .i64 i__Op10, .int .i64 i__A11, .int .i64 i__B12, .int .i64 i__C13, .int .i64 i__X14]]) w (retQ orc Try.f126.results.toList K)) h)

-- holloway/ir.places
def ir_places_sh (t__Start1 : Int) (t__Slots2 : Int) (t__Backs3 : Int) (t__Grow4 : Int) (t__GrowBack5 : Int) (t__Ins6 : Sl) (t__Outs7 : Sl) (t__Last8 : Int) (t__Cells9 : Sl) (l_10 : Sl) (at_11 : Int) (w : World) (K : Value → World → Prop) : Prop :=
 ∀ (b12 : Nat) (w13 : World), b12 = w.heap.size → w13 = World.alloc w (.cells #[.int .i64 t__Start1, .int .i64 t__Slots2, .int .i64 t__Backs3, .int .i64 t__Grow4, .int .i64 t__GrowBack5, t__Ins6.val, t__Outs7.val, .int .i64 t__Last8, t__Cells9.val] T_api_Trace) →
 ∃ (I1 : Int → World → Prop) (μ1 : Int → World → Nat), I1 (0 : Int) w13 ∧ ∀ (n15 : Int) (w14 : World), I1 n15 w14 →
 brB (decide (n15 < (l_10.len : Int)))
 (∃ a16 : Addr, l_10.ptr = some a16 ∧ 0 ≤ n15 ∧ n15 < (l_10.len : Int) ∧
 ∃ n17 : Int, w14.cell? (Addr.add a16 (Int.toNat n15 * 1)) = some (.int .i64 n17) ∧
 ∃ J8 : Bool → World → Prop, (∀ (b25 : Bool) (w24 : World), J8 b25 w24 →
 brB b25
 (K (.bool false) w24)
 (I1 (wr (n15 + (1 : Int))) w24 ∧ μ1 (wr (n15 + (1 : Int))) w24 < μ1 n15 w14)) ∧
 brB (decide (n17 < (0 : Int)))
 (J8 true w14)
 (brB (decide (n17 ≥ at_11))
 (J8 true w14)
 (∃ s18 : Sl, w14.cell? ⟨b12, 5, none⟩ = some (s18.val) ∧
 ∃ a19 : Addr, s18.ptr = some a19 ∧ 0 ≤ n17 ∧ n17 < (s18.len : Int) ∧
 ∃ n20 : Int, w14.cell? (Addr.add a19 (Int.toNat n17 * 5)) = some (.int .i64 n20) ∧
 Calls Try.prog fn_ir_Gives #[.int .i64 n20] w14 fun e21 w22 => ∃ b23 : Bool, e21 = .returned (.bool b23) ∧
 J8 (!b23) w22)))
 (K (.bool true) w14)
def ir_places_an : An := ⟨[(2, [(11, .int .i64)])], [], [(5, [(31, .bool)])]⟩
theorem ir_places_lift {t__Start1 : Int} {t__Slots2 : Int} {t__Backs3 : Int} {t__Grow4 : Int} {t__GrowBack5 : Int} {t__Ins6 : Sl} {t__Outs7 : Sl} {t__Last8 : Int} {t__Cells9 : Sl} {l_10 : Sl} {at_11 : Int} {w : World} {K : Value → World → Prop} (h : ir_places_sh t__Start1 t__Slots2 t__Backs3 t__Grow4 t__GrowBack5 t__Ins6 t__Outs7 t__Last8 t__Cells9 l_10 at_11 w K) : Calls Try.prog fn_ir_places #[.agg #[.int .i64 t__Start1, .int .i64 t__Slots2, .int .i64 t__Backs3, .int .i64 t__Grow4, .int .i64 t__GrowBack5, t__Ins6.val, t__Outs7.val, .int .i64 t__Last8, t__Cells9.val], l_10.val, .int .i64 at_11] w fun e w' => ∃ v, e = .returned v ∧ K v w' :=
   lift_calls (A := ir_places_an) (c := bodyOf Try.f127) (args := [.agg #[.int .i64 t__Start1, .int .i64 t__Slots2, .int .i64 t__Backs3, .int .i64 t__Grow4, .int .i64 t__GrowBack5, t__Ins6.val, t__Outs7.val, .int .i64 t__Last8, t__Cells9.val], l_10.val, .int .i64 at_11]) orc orc_wide Try.func127 (by kernel_rfl) (by kernel_rfl) (Eq.mp (by kernel_rfl : ir_places_sh t__Start1 t__Slots2 t__Backs3 t__Grow4 t__GrowBack5 t__Ins6 t__Outs7 t__Last8 t__Cells9 l_10 at_11 w K = wpc orc Try.f127.ntmps ir_places_an (bodyOf Try.f127) (argl 0 [.agg #[.int .i64 t__Start1, .int .i64 t__Slots2, .int .i64 t__Backs3, .int .i64 t__Grow4, .int .i64 t__GrowBack5, t__Ins6.val, t__Outs7.val, .int .i64 t__Last8, t__Cells9.val], l_10.val, .int .i64 at_11]) w (retQ orc Try.f127.results.toList K)) h)

-- holloway/ir.Uses
def ir_Uses_j1 (J4 : World → Prop) (n8 : Int) (b16 : Bool) (w15 : World) (K : Value → World → Prop) : Prop :=
 brB b16
 (J4  w15)
 (brB (n8 == (10 : Int))
 ((brB (n8 == (10 : Int))
 (J4  w15)
 (K (.slice none 0 0) w15)))
 ((brB (n8 == (11 : Int))
 (J4  w15)
 (K (.slice none 0 0) w15))))
def ir_Uses_sh (i__Op1 : Int) (i__A2 : Int) (i__B3 : Int) (i__C4 : Int) (i__X5 : Int) (w : World) (K : Value → World → Prop) : Prop :=
 ∀ (b6 : Nat) (w7 : World), b6 = w.heap.size → w7 = World.alloc w (.cells #[.int .i64 i__Op1, .int .i64 i__A2, .int .i64 i__B3, .int .i64 i__C4, .int .i64 i__X5] T_api_Ins) →
 ∃ n8 : Int, w7.cell? ⟨b6, 0, none⟩ = some (.int .i64 n8) ∧
 ∃ J4 : World → Prop, (∀ (w33 : World), J4  w33 →
 ∃ n34 : Int, w33.cell? ⟨b6, 2, none⟩ = some (.int .i64 n34) ∧
 ∀ (b35 : Nat) (w36 : World), b35 = w33.heap.size → w36 = World.alloc w33 (.cells #[.int .i64 n34] T_int) →
 K (.slice (some ⟨b35, 0, none⟩) 1 1) w36) ∧
 ∃ J5 : World → Prop, (∀ (w28 : World), J5  w28 →
 ∃ n29 : Int, w28.cell? ⟨b6, 2, none⟩ = some (.int .i64 n29) ∧
 ∃ n30 : Int, w28.cell? ⟨b6, 3, none⟩ = some (.int .i64 n30) ∧
 ∀ (b31 : Nat) (w32 : World), b31 = w28.heap.size → w32 = World.alloc w28 (.cells #[.int .i64 n29, .int .i64 n30] T_int) →
 K (.slice (some ⟨b31, 0, none⟩) 2 2) w32) ∧
 brB (n8 == (4 : Int))
 (∃ n21 : Int, w7.cell? ⟨b6, 1, none⟩ = some (.int .i64 n21) ∧
 Calls Try.prog fn_ir_two #[.int .i64 n21] w7 fun e22 w23 => ∃ b24 : Bool, e22 = .returned (.bool b24) ∧
 brB (!b24)
 (∃ n25 : Int, w23.cell? ⟨b6, 2, none⟩ = some (.int .i64 n25) ∧
 ∀ (b26 : Nat) (w27 : World), b26 = w23.heap.size → w27 = World.alloc w23 (.cells #[.int .i64 n25] T_int) →
 K (.slice (some ⟨b26, 0, none⟩) 1 1) w27)
 (J5  w23))
 (brB (n8 == (6 : Int))
 ((brB (n8 == (6 : Int))
 (J5  w7)
 (brB (n8 == (5 : Int))
 (ir_Uses_j1 J4 n8 (n8 == (5 : Int)) w7 K)
 (brB (n8 == (7 : Int))
 (ir_Uses_j1 J4 n8 (n8 == (7 : Int)) w7 K)
 (ir_Uses_j1 J4 n8 (n8 == (8 : Int)) w7 K)))))
 ((brB (n8 == (9 : Int))
 (J5  w7)
 (brB (n8 == (5 : Int))
 (ir_Uses_j1 J4 n8 (n8 == (5 : Int)) w7 K)
 (brB (n8 == (7 : Int))
 (ir_Uses_j1 J4 n8 (n8 == (7 : Int)) w7 K)
 (ir_Uses_j1 J4 n8 (n8 == (8 : Int)) w7 K))))))
def ir_Uses_an : An := ⟨[], [], [(12, []), (13, [])]⟩
theorem ir_Uses_lift {i__Op1 : Int} {i__A2 : Int} {i__B3 : Int} {i__C4 : Int} {i__X5 : Int} {w : World} {K : Value → World → Prop} (h : ir_Uses_sh i__Op1 i__A2 i__B3 i__C4 i__X5 w K) : Calls Try.prog fn_ir_Uses #[.agg #[.int .i64 i__Op1, .int .i64 i__A2, .int .i64 i__B3, .int .i64 i__C4, .int .i64 i__X5]] w fun e w' => ∃ v, e = .returned v ∧ K v w' :=
   lift_calls (A := ir_Uses_an) (c := bodyOf Try.f128) (args := [.agg #[.int .i64 i__Op1, .int .i64 i__A2, .int .i64 i__B3, .int .i64 i__C4, .int .i64 i__X5]]) orc orc_wide Try.func128 (by kernel_rfl) (by kernel_rfl) (Eq.mp (by kernel_rfl : ir_Uses_sh i__Op1 i__A2 i__B3 i__C4 i__X5 w K = wpc orc Try.f128.ntmps ir_Uses_an (bodyOf Try.f128) (argl 0 [.agg #[.int .i64 i__Op1, .int .i64 i__A2, .int .i64 i__B3, .int .i64 i__C4, .int .i64 i__X5]]) w (retQ orc Try.f128.results.toList K)) h)

-- holloway/ir.Outs
def ir_Outs_j1 (J5 : World → Prop) (n8 : Int) (b6 : Nat) (b16 : Bool) (w15 : World) (K : Value → World → Prop) : Prop :=
 brB b16
 (J5  w15)
 (brB (n8 == (6 : Int))
 (∃ n25 : Int, w15.cell? ⟨b6, 4, none⟩ = some (.int .i64 n25) ∧
 ∃ n26 : Int, w15.cell? ⟨b6, 1, none⟩ = some (.int .i64 n26) ∧
 ∀ (b27 : Nat) (w28 : World), b27 = w15.heap.size → w28 = World.alloc w15 (.cells #[.int .i64 n25, .int .i64 n26] T_int) →
 K (.slice (some ⟨b27, 0, none⟩) 2 2) w28)
 (K (.slice none 0 0) w15))
def ir_Outs_sh (i__Op1 : Int) (i__A2 : Int) (i__B3 : Int) (i__C4 : Int) (i__X5 : Int) (w : World) (K : Value → World → Prop) : Prop :=
 ∀ (b6 : Nat) (w7 : World), b6 = w.heap.size → w7 = World.alloc w (.cells #[.int .i64 i__Op1, .int .i64 i__A2, .int .i64 i__B3, .int .i64 i__C4, .int .i64 i__X5] T_api_Ins) →
 ∃ n8 : Int, w7.cell? ⟨b6, 0, none⟩ = some (.int .i64 n8) ∧
 ∃ J5 : World → Prop, (∀ (w21 : World), J5  w21 →
 ∃ n22 : Int, w21.cell? ⟨b6, 4, none⟩ = some (.int .i64 n22) ∧
 ∀ (b23 : Nat) (w24 : World), b23 = w21.heap.size → w24 = World.alloc w21 (.cells #[.int .i64 n22] T_int) →
 K (.slice (some ⟨b23, 0, none⟩) 1 1) w24) ∧
 brB (n8 == (4 : Int))
 (∃ J19 : Bool → World → Prop, (∀ (b20 : Bool) (w19 : World), J19 b20 w19 →
 brB b20
 (K (.slice none 0 0) w19)
 (J5  w19)) ∧
 ∃ n17 : Int, w7.cell? ⟨b6, 1, none⟩ = some (.int .i64 n17) ∧
 brB (n17 != (14 : Int))
 (∃ n18 : Int, w7.cell? ⟨b6, 1, none⟩ = some (.int .i64 n18) ∧
 J19 (n18 != (15 : Int)) w7)
 (J19 false w7))
 (brB (n8 == (5 : Int))
 ((brB (n8 == (5 : Int))
 (J5  w7)
 (brB (n8 == (10 : Int))
 (ir_Outs_j1 J5 n8 b6 (n8 == (10 : Int)) w7 K)
 (ir_Outs_j1 J5 n8 b6 (n8 == (11 : Int)) w7 K))))
 (brB (n8 == (7 : Int))
 ((brB (n8 == (7 : Int))
 (J5  w7)
 (brB (n8 == (10 : Int))
 (ir_Outs_j1 J5 n8 b6 (n8 == (10 : Int)) w7 K)
 (ir_Outs_j1 J5 n8 b6 (n8 == (11 : Int)) w7 K))))
 (brB (n8 == (8 : Int))
 ((brB (n8 == (8 : Int))
 (J5  w7)
 (brB (n8 == (10 : Int))
 (ir_Outs_j1 J5 n8 b6 (n8 == (10 : Int)) w7 K)
 (ir_Outs_j1 J5 n8 b6 (n8 == (11 : Int)) w7 K))))
 ((brB (n8 == (9 : Int))
 (J5  w7)
 (brB (n8 == (10 : Int))
 (ir_Outs_j1 J5 n8 b6 (n8 == (10 : Int)) w7 K)
 (ir_Outs_j1 J5 n8 b6 (n8 == (11 : Int)) w7 K)))))))
def ir_Outs_an : An := ⟨[], [], [(11, [(24, .bool)]), (12, [])]⟩
theorem ir_Outs_lift {i__Op1 : Int} {i__A2 : Int} {i__B3 : Int} {i__C4 : Int} {i__X5 : Int} {w : World} {K : Value → World → Prop} (h : ir_Outs_sh i__Op1 i__A2 i__B3 i__C4 i__X5 w K) : Calls Try.prog fn_ir_Outs #[.agg #[.int .i64 i__Op1, .int .i64 i__A2, .int .i64 i__B3, .int .i64 i__C4, .int .i64 i__X5]] w fun e w' => ∃ v, e = .returned v ∧ K v w' :=
   lift_calls (A := ir_Outs_an) (c := bodyOf Try.f129) (args := [.agg #[.int .i64 i__Op1, .int .i64 i__A2, .int .i64 i__B3, .int .i64 i__C4, .int .i64 i__X5]]) orc orc_wide Try.func129 (by kernel_rfl) (by kernel_rfl) (Eq.mp (by kernel_rfl : ir_Outs_sh i__Op1 i__A2 i__B3 i__C4 i__X5 w K = wpc orc Try.f129.ntmps ir_Outs_an (bodyOf Try.f129) (argl 0 [.agg #[.int .i64 i__Op1, .int .i64 i__A2, .int .i64 i__B3, .int .i64 i__C4, .int .i64 i__X5]]) w (retQ orc Try.f129.results.toList K)) h)

-- holloway/ir.Gives
def ir_Gives_j1 (op1 : Int) (b5 : Bool) (w4 : World) (K : Value → World → Prop) : Prop :=
 brB b5
 (K (.bool true) w4)
 (brB (op1 == (4 : Int))
 ((brB (op1 == (4 : Int))
 (K (.bool true) w4)
 (brB (op1 == (12 : Int))
 (K (.bool true) w4)
 (K (.bool false) w4))))
 ((brB (op1 == (5 : Int))
 (K (.bool true) w4)
 (brB (op1 == (12 : Int))
 (K (.bool true) w4)
 (K (.bool false) w4)))))
def ir_Gives_sh (op1 : Int) (w : World) (K : Value → World → Prop) : Prop :=
 brB (op1 == (1 : Int))
 (ir_Gives_j1 op1 (op1 == (1 : Int)) w K)
 (brB (op1 == (2 : Int))
 (ir_Gives_j1 op1 (op1 == (2 : Int)) w K)
 (ir_Gives_j1 op1 (op1 == (3 : Int)) w K))
def ir_Gives_an : An := ⟨[], [], []⟩
theorem ir_Gives_lift {op1 : Int} {w : World} {K : Value → World → Prop} (h : ir_Gives_sh op1 w K) : Calls Try.prog fn_ir_Gives #[.int .i64 op1] w fun e w' => ∃ v, e = .returned v ∧ K v w' :=
   lift_calls (A := ir_Gives_an) (c := bodyOf Try.f151) (args := [.int .i64 op1]) orc orc_wide Try.func151 (by kernel_rfl) (by kernel_rfl) (Eq.mp (by kernel_rfl : ir_Gives_sh op1 w K = wpc orc Try.f151.ntmps ir_Gives_an (bodyOf Try.f151) (argl 0 [.int .i64 op1]) w (retQ orc Try.f151.results.toList K)) h)

-- holloway/ir.between
def ir_between_sh (n_1 : Int) (least2 : Int) (most3 : Int) (w : World) (K : Value → World → Prop) : Prop :=
 brB (decide (n_1 ≥ least2))
 (K (.bool (decide (n_1 ≤ most3))) w)
 (K (.bool false) w)
def ir_between_an : An := ⟨[], [], []⟩
theorem ir_between_lift {n_1 : Int} {least2 : Int} {most3 : Int} {w : World} {K : Value → World → Prop} (h : ir_between_sh n_1 least2 most3 w K) : Calls Try.prog fn_ir_between #[.int .i64 n_1, .int .i64 least2, .int .i64 most3] w fun e w' => ∃ v, e = .returned v ∧ K v w' :=
   lift_calls (A := ir_between_an) (c := bodyOf Try.f162) (args := [.int .i64 n_1, .int .i64 least2, .int .i64 most3]) orc orc_wide Try.func162 (by kernel_rfl) (by kernel_rfl) (Eq.mp (by kernel_rfl : ir_between_sh n_1 least2 most3 w K = wpc orc Try.f162.ntmps ir_between_an (bodyOf Try.f162) (argl 0 [.int .i64 n_1, .int .i64 least2, .int .i64 most3]) w (retQ orc Try.f162.results.toList K)) h)

-- holloway/ir.two
def ir_two_sh (op1 : Int) (w : World) (K : Value → World → Prop) : Prop :=
 Calls Try.prog fn_cell_Two #[.int .i64 op1, .int .i64 (1 : Int), .int .i64 (1 : Int)] w fun e2 w3 => ∃ n4 : Int, ∃ b5 : Bool, e2 = .returned (.tuple #[.int .i64 n4, .bool b5]) ∧
 K (.bool b5) w3
def ir_two_an : An := ⟨[], [], []⟩
theorem ir_two_lift {op1 : Int} {w : World} {K : Value → World → Prop} (h : ir_two_sh op1 w K) : Calls Try.prog fn_ir_two #[.int .i64 op1] w fun e w' => ∃ v, e = .returned v ∧ K v w' :=
   lift_calls (A := ir_two_an) (c := bodyOf Try.f163) (args := [.int .i64 op1]) orc orc_wide Try.func163 (by kernel_rfl) (by kernel_rfl) (Eq.mp (by kernel_rfl : ir_two_sh op1 w K = wpc orc Try.f163.ntmps ir_two_an (bodyOf Try.f163) (argl 0 [.int .i64 op1]) w (retQ orc Try.f163.results.toList K)) h)

-- holloway/ir.one
def ir_one_sh (op1 : Int) (w : World) (K : Value → World → Prop) : Prop :=
 Calls Try.prog fn_cell_One #[.int .i64 op1, .int .i64 (1 : Int)] w fun e2 w3 => ∃ n4 : Int, ∃ b5 : Bool, e2 = .returned (.tuple #[.int .i64 n4, .bool b5]) ∧
 K (.bool b5) w3
def ir_one_an : An := ⟨[], [], []⟩
theorem ir_one_lift {op1 : Int} {w : World} {K : Value → World → Prop} (h : ir_one_sh op1 w K) : Calls Try.prog fn_ir_one #[.int .i64 op1] w fun e w' => ∃ v, e = .returned v ∧ K v w' :=
   lift_calls (A := ir_one_an) (c := bodyOf Try.f164) (args := [.int .i64 op1]) orc orc_wide Try.func164 (by kernel_rfl) (by kernel_rfl) (Eq.mp (by kernel_rfl : ir_one_sh op1 w K = wpc orc Try.f164.ntmps ir_one_an (bodyOf Try.f164) (argl 0 [.int .i64 op1]) w (retQ orc Try.f164.results.toList K)) h)

end Go.Proofs.Ytblmoilneiffgaa

/- Functions of Fold, read without their frames; that each is enough. Printed by a program of mine (wip/lift/gen.py). -/
set_option maxRecDepth 100000
namespace Go.Proofs.Ytblmoilneiffgaa
open Go.RowKit

-- holloway/fold.Do
-- holloway/fold.Left
-- (holloway/fold.Map).Ins
def fold_Map_Ins_sh (m_1 : Sl) (i__Op2 : Int) (i__A3 : Int) (i__B4 : Int) (i__C5 : Int) (i__X6 : Int) (w : World) (K : Value → World → Prop) : Prop :=
 ∀ (b7 : Nat) (w8 : World), b7 = w.heap.size → w8 = World.alloc w (.cells #[.int .i64 i__Op2, .int .i64 i__A3, .int .i64 i__B4, .int .i64 i__C5, .int .i64 i__X6] T_api_Ins) →
 ∀ (b9 : Nat) (w10 : World), b9 = w8.heap.size → w10 = World.alloc w8 (.cells #[.int .i64 (0 : Int), .int .i64 (0 : Int), .int .i64 (0 : Int), .int .i64 (0 : Int), .int .i64 (0 : Int)] T_api_Ins) →
 ∃ J2 : World → Prop, (∀ (w30 : World), J2  w30 →
 ∃ n_Op31 : Int, ∃ n_A32 : Int, ∃ n_B33 : Int, ∃ n_C34 : Int, ∃ n_X35 : Int, w30.cell? ⟨b7, 0, none⟩ = some (.int .i64 n_Op31) ∧ w30.cell? ⟨b7, 1, none⟩ = some (.int .i64 n_A32) ∧ w30.cell? ⟨b7, 2, none⟩ = some (.int .i64 n_B33) ∧ w30.cell? ⟨b7, 3, none⟩ = some (.int .i64 n_C34) ∧ w30.cell? ⟨b7, 4, none⟩ = some (.int .i64 n_X35) ∧
 wrOk w30 ⟨b9, 0, none⟩ 5 ∧ ∀ w36 : World, w36 = stW w30 ⟨b9, 0, none⟩ 0 [.int .i64 n_Op31, .int .i64 n_A32, .int .i64 n_B33, .int .i64 n_C34, .int .i64 n_X35] →
 ∃ r_Op37 : Int, ∃ r_A38 : Int, ∃ r_B39 : Int, ∃ r_C40 : Int, ∃ r_X41 : Int, w36.cell? ⟨b9, 0, none⟩ = some (.int .i64 r_Op37) ∧ w36.cell? ⟨b9, 1, none⟩ = some (.int .i64 r_A38) ∧ w36.cell? ⟨b9, 2, none⟩ = some (.int .i64 r_B39) ∧ w36.cell? ⟨b9, 3, none⟩ = some (.int .i64 r_C40) ∧ w36.cell? ⟨b9, 4, none⟩ = some (.int .i64 r_X41) ∧
 K (.agg #[.int .i64 r_Op37, .int .i64 r_A38, .int .i64 r_B39, .int .i64 r_C40, .int .i64 r_X41]) w36) ∧
 ∃ n_Op11 : Int, ∃ n_A12 : Int, ∃ n_B13 : Int, ∃ n_C14 : Int, ∃ n_X15 : Int, w10.cell? ⟨b7, 0, none⟩ = some (.int .i64 n_Op11) ∧ w10.cell? ⟨b7, 1, none⟩ = some (.int .i64 n_A12) ∧ w10.cell? ⟨b7, 2, none⟩ = some (.int .i64 n_B13) ∧ w10.cell? ⟨b7, 3, none⟩ = some (.int .i64 n_C14) ∧ w10.cell? ⟨b7, 4, none⟩ = some (.int .i64 n_X15) ∧
 Calls Try.prog fn_ir_Uses #[.agg #[.int .i64 n_Op11, .int .i64 n_A12, .int .i64 n_B13, .int .i64 n_C14, .int .i64 n_X15]] w10 fun e16 w17 => ∃ s18 : Sl, e16 = .returned (s18.val) ∧
 ∃ J4 : World → Prop, (∀ (w24 : World), J4  w24 →
 ∃ n25 : Int, w24.cell? ⟨b7, 2, none⟩ = some (.int .i64 n25) ∧
 Calls Try.prog fn_fold_Map_Of #[m_1.val, .int .i64 n25] w24 fun e26 w27 => ∃ n28 : Int, e26 = .returned (.int .i64 n28) ∧
 wrOk w27 ⟨b7, 2, none⟩ 1 ∧ ∀ w29 : World, w29 = stW w27 ⟨b7, 2, none⟩ 0 [.int .i64 n28] →
 J2  w29) ∧
 brB ((s18.len : Int) == (2 : Int))
 (∃ n19 : Int, w17.cell? ⟨b7, 3, none⟩ = some (.int .i64 n19) ∧
 Calls Try.prog fn_fold_Map_Of #[m_1.val, .int .i64 n19] w17 fun e20 w21 => ∃ n22 : Int, e20 = .returned (.int .i64 n22) ∧
 wrOk w21 ⟨b7, 3, none⟩ 1 ∧ ∀ w23 : World, w23 = stW w21 ⟨b7, 3, none⟩ 0 [.int .i64 n22] →
 J4  w23)
 (brB ((s18.len : Int) == (1 : Int))
 (J4  w17)
 (J2  w17))
def fold_Map_Ins_an : An := ⟨[], [], [(5, []), (6, [])]⟩
theorem fold_Map_Ins_lift {m_1 : Sl} {i__Op2 : Int} {i__A3 : Int} {i__B4 : Int} {i__C5 : Int} {i__X6 : Int} {w : World} {K : Value → World → Prop} (h : fold_Map_Ins_sh m_1 i__Op2 i__A3 i__B4 i__C5 i__X6 w K) : Calls Try.prog fn_fold_Map_Ins #[m_1.val, .agg #[.int .i64 i__Op2, .int .i64 i__A3, .int .i64 i__B4, .int .i64 i__C5, .int .i64 i__X6]] w fun e w' => ∃ v, e = .returned v ∧ K v w' :=
   lift_calls (A := fold_Map_Ins_an) (c := bodyOf Try.f60) (args := [m_1.val, .agg #[.int .i64 i__Op2, .int .i64 i__A3, .int .i64 i__B4, .int .i64 i__C5, .int .i64 i__X6]]) orc orc_wide Try.func60 (by kernel_rfl) (by kernel_rfl) (Eq.mp (by kernel_rfl : fold_Map_Ins_sh m_1 i__Op2 i__A3 i__B4 i__C5 i__X6 w K = wpc orc Try.f60.ntmps fold_Map_Ins_an (bodyOf Try.f60) (argl 0 [m_1.val, .agg #[.int .i64 i__Op2, .int .i64 i__A3, .int .i64 i__B4, .int .i64 i__C5, .int .i64 i__X6]]) w (retQ orc Try.f60.results.toList K)) h)

-- holloway/fold.holds
-- holloway/fold.reckoned
-- (holloway/fold.Map).Outs
def fold_Map_Outs_sh (m_1 : Sl) (l_2 : Sl) (w : World) (K : Value → World → Prop) : Prop :=
 ∃ (I1 : Sl → Int → World → Prop) (μ1 : Sl → Int → World → Nat), I1 (⟨none, 0, 0⟩ : Sl) (0 : Int) w ∧ ∀ (out15 : Sl) (n4 : Int) (w3 : World), I1 out15 n4 w3 →
 brB (decide (n4 < (l_2.len : Int)))
 (∃ a5 : Addr, l_2.ptr = some a5 ∧ 0 ≤ n4 ∧ n4 < (l_2.len : Int) ∧
 ∃ n_Ip6 : Int, ∃ n_Steps7 : Int, ∃ s_Stack8 : Sl, ∃ s_Back9 : Sl, w3.cell? (Addr.add a5 (Int.toNat n4 * 4)) = some (.int .i64 n_Ip6) ∧ w3.cell? (Addr.add (Addr.add a5 (Int.toNat n4 * 4)) 1) = some (.int .i64 n_Steps7) ∧ w3.cell? (Addr.add (Addr.add a5 (Int.toNat n4 * 4)) 2) = some (s_Stack8.val) ∧ w3.cell? (Addr.add (Addr.add a5 (Int.toNat n4 * 4)) 3) = some (s_Back9.val) ∧
 ∀ (b10 : Nat) (w11 : World), b10 = w3.heap.size → w11 = World.alloc w3 (.cells #[.int .i64 (0 : Int), .int .i64 (0 : Int), .slice none 0 0, .slice none 0 0] T_api_Out) →
 wrOk w11 ⟨b10, 0, none⟩ 4 ∧ ∀ w12 : World, w12 = stW w11 ⟨b10, 0, none⟩ 0 [.int .i64 n_Ip6, .int .i64 n_Steps7, s_Stack8.val, s_Back9.val] →
 ∀ w13 : World, w13 = World.drew w12 →
 ∃ S14 : World → Prop, S14 w13 ∧
 ∃ n16 : Int, held S14 ⟨b10, 0, none⟩ (.int .i64 n16) ∧
 ∃ n17 : Int, held S14 ⟨b10, 1, none⟩ (.int .i64 n17) ∧
 ∃ s18 : Sl, held S14 ⟨b10, 2, none⟩ (s18.val) ∧
 ∃ s19 : Sl, held S14 ⟨b10, 3, none⟩ (s19.val) ∧
 Calls Try.prog fn_fold_Map_All #[m_1.val, s18.val] w13 fun e20 w21 => ∃ s22 : Sl, e20 = .returned (s22.val) ∧
 S14 w21 ∧
 Calls Try.prog fn_fold_Map_All #[m_1.val, s19.val] w21 fun e23 w24 => ∃ s25 : Sl, e23 = .returned (s25.val) ∧
 S14 w24 ∧
 S14 w24 ∧
 ∀ (b26 : Nat) (w27 : World), b26 = w24.heap.size → w27 = World.alloc w24 (.cells #[.int .i64 n16, .int .i64 n17, s22.val, s25.val] T_api_Out) →
 S14 w27 ∧
 ∃ s28 : Sl, ∃ w29 : World, (Builtin.append_ #[T_sl_api_Out, T_sl_api_Out] T_sl_api_Out #[out15.val, .slice (some ⟨b26, 0, none⟩) 1 1]).run Try.prog w27 = .ok (s28.val) w29 ∧
 I1 s28 (wr (n4 + (1 : Int))) w29 ∧ μ1 s28 (wr (n4 + (1 : Int))) w29 < μ1 out15 n4 w3)
 (K (out15.val) w3)
def fold_Map_Outs_an : An := ⟨[(3, [(5, .sl), (10, .int .i64)])], [(5, (15, .st 0 (.st 1 (.st 2 (.st 3 (.st 4 (.st 5 (.st 6 (.st 7 (.st 9 (.st 10 (.st 11 (.ef 8 (.ef 12 (.ef 13 (.ef 14 .done)))))))))))))), 1))], []⟩
theorem fold_Map_Outs_lift {m_1 : Sl} {l_2 : Sl} {w : World} {K : Value → World → Prop} (h : fold_Map_Outs_sh m_1 l_2 w K) : Calls Try.prog fn_fold_Map_Outs #[m_1.val, l_2.val] w fun e w' => ∃ v, e = .returned v ∧ K v w' :=
   lift_calls (A := fold_Map_Outs_an) (c := bodyOf Try.f63) (args := [m_1.val, l_2.val]) orc orc_wide Try.func63 (by kernel_rfl) (by kernel_rfl) (Eq.mp (by kernel_rfl : fold_Map_Outs_sh m_1 l_2 w K = wpc orc Try.f63.ntmps fold_Map_Outs_an (bodyOf Try.f63) (argl 0 [m_1.val, l_2.val]) w (retQ orc Try.f63.results.toList K)) h)

-- (holloway/fold.Map).Of
def fold_Map_Of_sh (m_1 : Sl) (p_2 : Int) (w : World) (K : Value → World → Prop) : Prop :=
 ∃ J3 : Bool → World → Prop, (∀ (b4 : Bool) (w3 : World), J3 b4 w3 →
 brB b4
 (K (.int .i64 p_2) w3)
 (∃ a5 : Addr, m_1.ptr = some a5 ∧ 0 ≤ p_2 ∧ p_2 < (m_1.len : Int) ∧
 ∃ n6 : Int, w3.cell? (Addr.add a5 (Int.toNat p_2 * 1)) = some (.int .i64 n6) ∧
 K (.int .i64 n6) w3)) ∧
 brB (decide (p_2 < (0 : Int)))
 (J3 true w)
 (J3 (decide (p_2 ≥ (m_1.len : Int))) w)
def fold_Map_Of_an : An := ⟨[], [], [(2, [(12, .bool)])]⟩
theorem fold_Map_Of_lift {m_1 : Sl} {p_2 : Int} {w : World} {K : Value → World → Prop} (h : fold_Map_Of_sh m_1 p_2 w K) : Calls Try.prog fn_fold_Map_Of #[m_1.val, .int .i64 p_2] w fun e w' => ∃ v, e = .returned v ∧ K v w' :=
   lift_calls (A := fold_Map_Of_an) (c := bodyOf Try.f110) (args := [m_1.val, .int .i64 p_2]) orc orc_wide Try.func110 (by kernel_rfl) (by kernel_rfl) (Eq.mp (by kernel_rfl : fold_Map_Of_sh m_1 p_2 w K = wpc orc Try.f110.ntmps fold_Map_Of_an (bodyOf Try.f110) (argl 0 [m_1.val, .int .i64 p_2]) w (retQ orc Try.f110.results.toList K)) h)

-- holloway/fold.numbers
-- (holloway/fold.Map).All
def fold_Map_All_sh (m_1 : Sl) (l_2 : Sl) (w : World) (K : Value → World → Prop) : Prop :=
 ∃ (I1 : Sl → Int → World → Prop) (μ1 : Sl → Int → World → Nat), I1 (⟨none, 0, 0⟩ : Sl) (0 : Int) w ∧ ∀ (out7 : Sl) (n4 : Int) (w3 : World), I1 out7 n4 w3 →
 brB (decide (n4 < (l_2.len : Int)))
 (∃ a5 : Addr, l_2.ptr = some a5 ∧ 0 ≤ n4 ∧ n4 < (l_2.len : Int) ∧
 ∃ n6 : Int, w3.cell? (Addr.add a5 (Int.toNat n4 * 1)) = some (.int .i64 n6) ∧
 Calls Try.prog fn_fold_Map_Of #[m_1.val, .int .i64 n6] w3 fun e8 w9 => ∃ n10 : Int, e8 = .returned (.int .i64 n10) ∧
 ∀ (b11 : Nat) (w12 : World), b11 = w9.heap.size → w12 = World.alloc w9 (.cells #[.int .i64 n10] T_int) →
 ∃ s13 : Sl, ∃ w14 : World, (Builtin.append_ #[T_sl_int, T_sl_int] T_sl_int #[out7.val, .slice (some ⟨b11, 0, none⟩) 1 1]).run Try.prog w12 = .ok (s13.val) w14 ∧
 I1 s13 (wr (n4 + (1 : Int))) w14 ∧ μ1 s13 (wr (n4 + (1 : Int))) w14 < μ1 out7 n4 w3)
 (K (out7.val) w3)
def fold_Map_All_an : An := ⟨[(3, [(5, .sl), (10, .int .i64)])], [], []⟩
theorem fold_Map_All_lift {m_1 : Sl} {l_2 : Sl} {w : World} {K : Value → World → Prop} (h : fold_Map_All_sh m_1 l_2 w K) : Calls Try.prog fn_fold_Map_All #[m_1.val, l_2.val] w fun e w' => ∃ v, e = .returned v ∧ K v w' :=
   lift_calls (A := fold_Map_All_an) (c := bodyOf Try.f133) (args := [m_1.val, l_2.val]) orc orc_wide Try.func133 (by kernel_rfl) (by kernel_rfl) (Eq.mp (by kernel_rfl : fold_Map_All_sh m_1 l_2 w K = wpc orc Try.f133.ntmps fold_Map_All_an (bodyOf Try.f133) (argl 0 [m_1.val, l_2.val]) w (retQ orc Try.f133.results.toList K)) h)

end Go.Proofs.Ytblmoilneiffgaa

/- Functions of Forward, read without their frames; that each is enough. Printed by a program of mine (wip/lift/gen.py). -/
set_option maxRecDepth 100000
namespace Go.Proofs.Ytblmoilneiffgaa
open Go.RowKit

-- holloway/forward.Do
def forward_Do_sh (t__Start1 : Int) (t__Slots2 : Int) (t__Backs3 : Int) (t__Grow4 : Int) (t__GrowBack5 : Int) (t__Ins6 : Sl) (t__Outs7 : Sl) (t__Last8 : Int) (t__Cells9 : Sl) (w : World) (K : Value → World → Prop) : Prop :=
 ∀ (b10 : Nat) (w11 : World), b10 = w.heap.size → w11 = World.alloc w (.cells #[.int .i64 t__Start1, .int .i64 t__Slots2, .int .i64 t__Backs3, .int .i64 t__Grow4, .int .i64 t__GrowBack5, t__Ins6.val, t__Outs7.val, .int .i64 t__Last8, t__Cells9.val] T_api_Trace) →
 ∀ (b12 : Nat) (w13 : World), b12 = w11.heap.size → w13 = World.alloc w11 (.cells #[.int .i64 (0 : Int), .int .i64 (0 : Int), .int .i64 (0 : Int), .int .i64 (0 : Int), .int .i64 (0 : Int), .slice none 0 0, .slice none 0 0, .int .i64 (0 : Int), .slice none 0 0] T_api_Trace) →
 ∃ n_Start14 : Int, ∃ n_Slots15 : Int, ∃ n_Backs16 : Int, ∃ n_Grow17 : Int, ∃ n_GrowBack18 : Int, ∃ s_Ins19 : Sl, ∃ s_Outs20 : Sl, ∃ n_Last21 : Int, ∃ s_Cells22 : Sl, w13.cell? ⟨b10, 0, none⟩ = some (.int .i64 n_Start14) ∧ w13.cell? ⟨b10, 1, none⟩ = some (.int .i64 n_Slots15) ∧ w13.cell? ⟨b10, 2, none⟩ = some (.int .i64 n_Backs16) ∧ w13.cell? ⟨b10, 3, none⟩ = some (.int .i64 n_Grow17) ∧ w13.cell? ⟨b10, 4, none⟩ = some (.int .i64 n_GrowBack18) ∧ w13.cell? ⟨b10, 5, none⟩ = some (s_Ins19.val) ∧ w13.cell? ⟨b10, 6, none⟩ = some (s_Outs20.val) ∧ w13.cell? ⟨b10, 7, none⟩ = some (.int .i64 n_Last21) ∧ w13.cell? ⟨b10, 8, none⟩ = some (s_Cells22.val) ∧
 Calls Try.prog fn_ir_Right #[.agg #[.int .i64 n_Start14, .int .i64 n_Slots15, .int .i64 n_Backs16, .int .i64 n_Grow17, .int .i64 n_GrowBack18, s_Ins19.val, s_Outs20.val, .int .i64 n_Last21, s_Cells22.val]] w13 fun e23 w24 => ∃ b25 : Bool, e23 = .returned (.bool b25) ∧
 brB (!b25)
 (∃ n_Start26 : Int, ∃ n_Slots27 : Int, ∃ n_Backs28 : Int, ∃ n_Grow29 : Int, ∃ n_GrowBack30 : Int, ∃ s_Ins31 : Sl, ∃ s_Outs32 : Sl, ∃ n_Last33 : Int, ∃ s_Cells34 : Sl, w24.cell? ⟨b10, 0, none⟩ = some (.int .i64 n_Start26) ∧ w24.cell? ⟨b10, 1, none⟩ = some (.int .i64 n_Slots27) ∧ w24.cell? ⟨b10, 2, none⟩ = some (.int .i64 n_Backs28) ∧ w24.cell? ⟨b10, 3, none⟩ = some (.int .i64 n_Grow29) ∧ w24.cell? ⟨b10, 4, none⟩ = some (.int .i64 n_GrowBack30) ∧ w24.cell? ⟨b10, 5, none⟩ = some (s_Ins31.val) ∧ w24.cell? ⟨b10, 6, none⟩ = some (s_Outs32.val) ∧ w24.cell? ⟨b10, 7, none⟩ = some (.int .i64 n_Last33) ∧ w24.cell? ⟨b10, 8, none⟩ = some (s_Cells34.val) ∧
 wrOk w24 ⟨b12, 0, none⟩ 9 ∧ ∀ w35 : World, w35 = stW w24 ⟨b12, 0, none⟩ 0 [.int .i64 n_Start26, .int .i64 n_Slots27, .int .i64 n_Backs28, .int .i64 n_Grow29, .int .i64 n_GrowBack30, s_Ins31.val, s_Outs32.val, .int .i64 n_Last33, s_Cells34.val] →
 ∃ r_Start36 : Int, ∃ r_Slots37 : Int, ∃ r_Backs38 : Int, ∃ r_Grow39 : Int, ∃ r_GrowBack40 : Int, ∃ r_Ins41 : Sl, ∃ r_Outs42 : Sl, ∃ r_Last43 : Int, ∃ r_Cells44 : Sl, w35.cell? ⟨b12, 0, none⟩ = some (.int .i64 r_Start36) ∧ w35.cell? ⟨b12, 1, none⟩ = some (.int .i64 r_Slots37) ∧ w35.cell? ⟨b12, 2, none⟩ = some (.int .i64 r_Backs38) ∧ w35.cell? ⟨b12, 3, none⟩ = some (.int .i64 r_Grow39) ∧ w35.cell? ⟨b12, 4, none⟩ = some (.int .i64 r_GrowBack40) ∧ w35.cell? ⟨b12, 5, none⟩ = some (r_Ins41.val) ∧ w35.cell? ⟨b12, 6, none⟩ = some (r_Outs42.val) ∧ w35.cell? ⟨b12, 7, none⟩ = some (.int .i64 r_Last43) ∧ w35.cell? ⟨b12, 8, none⟩ = some (r_Cells44.val) ∧
 K (.agg #[.int .i64 r_Start36, .int .i64 r_Slots37, .int .i64 r_Backs38, .int .i64 r_Grow39, .int .i64 r_GrowBack40, r_Ins41.val, r_Outs42.val, .int .i64 r_Last43, r_Cells44.val]) w35)
 (Calls Try.prog fn_forward_nothing #[] w24 fun e45 w46 => ∃ m_cells47 : Option Nat, ∃ m_facts48 : Option Nat, ∃ m_alikes49 : Option Nat, e45 = .returned (.agg #[.map m_cells47, .map m_facts48, .map m_alikes49]) ∧
 ∀ (b50 : Nat) (w51 : World), b50 = w46.heap.size → w51 = World.alloc w46 (.cells #[.map none, .map none, .map none] T_forward_known) →
 wrOk w51 ⟨b50, 0, none⟩ 3 ∧ ∀ w52 : World, w52 = stW w51 ⟨b50, 0, none⟩ 0 [.map m_cells47, .map m_facts48, .map m_alikes49] →
 ∃ s53 : Sl, w52.cell? ⟨b10, 5, none⟩ = some (s53.val) ∧
 ∃ (I1 : Sl → Sl → Int → World → Prop) (μ1 : Sl → Sl → Int → World → Nat), I1 (⟨none, 0, 0⟩ : Sl) (⟨none, 0, 0⟩ : Sl) (0 : Int) w52 ∧ ∀ (l103 : Sl) (m65 : Sl) (n55 : Int) (w54 : World), I1 l103 m65 n55 w54 →
 brB (decide (n55 < (s53.len : Int)))
 (∃ J12 : Sl → Sl → World → Prop, (∀ (l153 : Sl) (m152 : Sl) (w119 : World), J12 l153 m152 w119 →
 I1 l153 m152 (wr (n55 + (1 : Int))) w119 ∧ μ1 l153 m152 (wr (n55 + (1 : Int))) w119 < μ1 l103 m65 n55 w54) ∧
 ∃ a56 : Addr, s53.ptr = some a56 ∧ 0 ≤ n55 ∧ n55 < (s53.len : Int) ∧
 ∃ n_Op57 : Int, ∃ n_A58 : Int, ∃ n_B59 : Int, ∃ n_C60 : Int, ∃ n_X61 : Int, w54.cell? (Addr.add a56 (Int.toNat n55 * 5)) = some (.int .i64 n_Op57) ∧ w54.cell? (Addr.add (Addr.add a56 (Int.toNat n55 * 5)) 1) = some (.int .i64 n_A58) ∧ w54.cell? (Addr.add (Addr.add a56 (Int.toNat n55 * 5)) 2) = some (.int .i64 n_B59) ∧ w54.cell? (Addr.add (Addr.add a56 (Int.toNat n55 * 5)) 3) = some (.int .i64 n_C60) ∧ w54.cell? (Addr.add (Addr.add a56 (Int.toNat n55 * 5)) 4) = some (.int .i64 n_X61) ∧
 ∀ (b62 : Nat) (w63 : World), b62 = w54.heap.size → w63 = World.alloc w54 (.cells #[.int .i64 (0 : Int), .int .i64 (0 : Int), .int .i64 (0 : Int), .int .i64 (0 : Int), .int .i64 (0 : Int)] T_api_Ins) →
 wrOk w63 ⟨b62, 0, none⟩ 5 ∧ ∀ w64 : World, w64 = stW w63 ⟨b62, 0, none⟩ 0 [.int .i64 n_Op57, .int .i64 n_A58, .int .i64 n_B59, .int .i64 n_C60, .int .i64 n_X61] →
 ∃ n_Op66 : Int, ∃ n_A67 : Int, ∃ n_B68 : Int, ∃ n_C69 : Int, ∃ n_X70 : Int, w64.cell? ⟨b62, 0, none⟩ = some (.int .i64 n_Op66) ∧ w64.cell? ⟨b62, 1, none⟩ = some (.int .i64 n_A67) ∧ w64.cell? ⟨b62, 2, none⟩ = some (.int .i64 n_B68) ∧ w64.cell? ⟨b62, 3, none⟩ = some (.int .i64 n_C69) ∧ w64.cell? ⟨b62, 4, none⟩ = some (.int .i64 n_X70) ∧
 Calls Try.prog fn_fold_Map_Ins #[m65.val, .agg #[.int .i64 n_Op66, .int .i64 n_A67, .int .i64 n_B68, .int .i64 n_C69, .int .i64 n_X70]] w64 fun e71 w72 => ∃ n_Op73 : Int, ∃ n_A74 : Int, ∃ n_B75 : Int, ∃ n_C76 : Int, ∃ n_X77 : Int, e71 = .returned (.agg #[.int .i64 n_Op73, .int .i64 n_A74, .int .i64 n_B75, .int .i64 n_C76, .int .i64 n_X77]) ∧
 wrOk w72 ⟨b62, 0, none⟩ 5 ∧ ∀ w78 : World, w78 = stW w72 ⟨b62, 0, none⟩ 0 [.int .i64 n_Op73, .int .i64 n_A74, .int .i64 n_B75, .int .i64 n_C76, .int .i64 n_X77] →
 ∃ m_cells79 : Option Nat, ∃ m_facts80 : Option Nat, ∃ m_alikes81 : Option Nat, w78.cell? ⟨b50, 0, none⟩ = some (.map m_cells79) ∧ w78.cell? ⟨b50, 1, none⟩ = some (.map m_facts80) ∧ w78.cell? ⟨b50, 2, none⟩ = some (.map m_alikes81) ∧
 ∃ n_Op82 : Int, ∃ n_A83 : Int, ∃ n_B84 : Int, ∃ n_C85 : Int, ∃ n_X86 : Int, w78.cell? ⟨b62, 0, none⟩ = some (.int .i64 n_Op82) ∧ w78.cell? ⟨b62, 1, none⟩ = some (.int .i64 n_A83) ∧ w78.cell? ⟨b62, 2, none⟩ = some (.int .i64 n_B84) ∧ w78.cell? ⟨b62, 3, none⟩ = some (.int .i64 n_C85) ∧ w78.cell? ⟨b62, 4, none⟩ = some (.int .i64 n_X86) ∧
 Calls Try.prog fn_forward_known_says #[.agg #[.map m_cells79, .map m_facts80, .map m_alikes81], .agg #[.int .i64 n_Op82, .int .i64 n_A83, .int .i64 n_B84, .int .i64 n_C85, .int .i64 n_X86]] w78 fun e87 w88 => ∃ n89 : Int, ∃ b90 : Bool, e87 = .returned (.tuple #[.int .i64 n89, .bool b90]) ∧
 brB b90
 (∀ (b91 : Nat) (w92 : World), b91 = w88.heap.size → w92 = World.alloc w88 (.cells #[.int .i64 n89] T_int) →
 ∃ s93 : Sl, ∃ w94 : World, (Builtin.append_ #[T_fold_Map, T_fold_Map] T_fold_Map #[m65.val, .slice (some ⟨b91, 0, none⟩) 1 1]).run Try.prog w92 = .ok (s93.val) w94 ∧
 J12 l103 s93 w94)
 (∃ m_cells95 : Option Nat, ∃ m_facts96 : Option Nat, ∃ m_alikes97 : Option Nat, w88.cell? ⟨b50, 0, none⟩ = some (.map m_cells95) ∧ w88.cell? ⟨b50, 1, none⟩ = some (.map m_facts96) ∧ w88.cell? ⟨b50, 2, none⟩ = some (.map m_alikes97) ∧
 ∃ n_Op98 : Int, ∃ n_A99 : Int, ∃ n_B100 : Int, ∃ n_C101 : Int, ∃ n_X102 : Int, w88.cell? ⟨b62, 0, none⟩ = some (.int .i64 n_Op98) ∧ w88.cell? ⟨b62, 1, none⟩ = some (.int .i64 n_A99) ∧ w88.cell? ⟨b62, 2, none⟩ = some (.int .i64 n_B100) ∧ w88.cell? ⟨b62, 3, none⟩ = some (.int .i64 n_C101) ∧ w88.cell? ⟨b62, 4, none⟩ = some (.int .i64 n_X102) ∧
 Calls Try.prog fn_forward_known_learn #[.agg #[.map m_cells95, .map m_facts96, .map m_alikes97], .agg #[.int .i64 n_Op98, .int .i64 n_A99, .int .i64 n_B100, .int .i64 n_C101, .int .i64 n_X102], .int .i64 (l103.len : Int)] w88 fun e104 w105 => e104 = .returned (.tuple #[]) ∧
 ∀ (b106 : Nat) (w107 : World), b106 = w105.heap.size → w107 = World.alloc w105 (.cells #[.int .i64 (l103.len : Int)] T_int) →
 ∃ s108 : Sl, ∃ w109 : World, (Builtin.append_ #[T_fold_Map, T_fold_Map] T_fold_Map #[m65.val, .slice (some ⟨b106, 0, none⟩) 1 1]).run Try.prog w107 = .ok (s108.val) w109 ∧
 ∃ n_Op110 : Int, ∃ n_A111 : Int, ∃ n_B112 : Int, ∃ n_C113 : Int, ∃ n_X114 : Int, w109.cell? ⟨b62, 0, none⟩ = some (.int .i64 n_Op110) ∧ w109.cell? ⟨b62, 1, none⟩ = some (.int .i64 n_A111) ∧ w109.cell? ⟨b62, 2, none⟩ = some (.int .i64 n_B112) ∧ w109.cell? ⟨b62, 3, none⟩ = some (.int .i64 n_C113) ∧ w109.cell? ⟨b62, 4, none⟩ = some (.int .i64 n_X114) ∧
 ∀ (b115 : Nat) (w116 : World), b115 = w109.heap.size → w116 = World.alloc w109 (.cells #[.int .i64 n_Op110, .int .i64 n_A111, .int .i64 n_B112, .int .i64 n_C113, .int .i64 n_X114] T_api_Ins) →
 ∃ s117 : Sl, ∃ w118 : World, (Builtin.append_ #[T_sl_api_Ins, T_sl_api_Ins] T_sl_api_Ins #[l103.val, .slice (some ⟨b115, 0, none⟩) 1 1]).run Try.prog w116 = .ok (s117.val) w118 ∧
 J12 s117 s108 w118))
 (∀ w120 : World, w120 = World.drew w54 →
 ∃ S121 : World → Prop, S121 w120 ∧
 ∃ s122 : Sl, held S121 ⟨b10, 6, none⟩ (s122.val) ∧
 ∃ s123 : Sl, held S121 ⟨b10, 8, none⟩ (s123.val) ∧
 Calls Try.prog fn_fold_Map_Outs #[m65.val, s122.val] w120 fun e124 w125 => ∃ s126 : Sl, e124 = .returned (s126.val) ∧
 S121 w125 ∧
 Calls Try.prog fn_slices_Clone_sl_int_int #[s123.val] w125 fun e127 w128 => ∃ s129 : Sl, e127 = .returned (s129.val) ∧
 S121 w128 ∧
 wrOk w128 ⟨b10, 5, none⟩ 1 ∧ ∀ w130 : World, w130 = stW w128 ⟨b10, 5, none⟩ 0 [l103.val] →
 wrOk w130 ⟨b10, 6, none⟩ 1 ∧ ∀ w131 : World, w131 = stW w130 ⟨b10, 6, none⟩ 0 [s126.val] →
 wrOk w131 ⟨b10, 8, none⟩ 1 ∧ ∀ w132 : World, w132 = stW w131 ⟨b10, 8, none⟩ 0 [s129.val] →
 ∃ n_Start133 : Int, ∃ n_Slots134 : Int, ∃ n_Backs135 : Int, ∃ n_Grow136 : Int, ∃ n_GrowBack137 : Int, ∃ s_Ins138 : Sl, ∃ s_Outs139 : Sl, ∃ n_Last140 : Int, ∃ s_Cells141 : Sl, w132.cell? ⟨b10, 0, none⟩ = some (.int .i64 n_Start133) ∧ w132.cell? ⟨b10, 1, none⟩ = some (.int .i64 n_Slots134) ∧ w132.cell? ⟨b10, 2, none⟩ = some (.int .i64 n_Backs135) ∧ w132.cell? ⟨b10, 3, none⟩ = some (.int .i64 n_Grow136) ∧ w132.cell? ⟨b10, 4, none⟩ = some (.int .i64 n_GrowBack137) ∧ w132.cell? ⟨b10, 5, none⟩ = some (s_Ins138.val) ∧ w132.cell? ⟨b10, 6, none⟩ = some (s_Outs139.val) ∧ w132.cell? ⟨b10, 7, none⟩ = some (.int .i64 n_Last140) ∧ w132.cell? ⟨b10, 8, none⟩ = some (s_Cells141.val) ∧
 wrOk w132 ⟨b12, 0, none⟩ 9 ∧ ∀ w142 : World, w142 = stW w132 ⟨b12, 0, none⟩ 0 [.int .i64 n_Start133, .int .i64 n_Slots134, .int .i64 n_Backs135, .int .i64 n_Grow136, .int .i64 n_GrowBack137, s_Ins138.val, s_Outs139.val, .int .i64 n_Last140, s_Cells141.val] →
 ∃ r_Start143 : Int, ∃ r_Slots144 : Int, ∃ r_Backs145 : Int, ∃ r_Grow146 : Int, ∃ r_GrowBack147 : Int, ∃ r_Ins148 : Sl, ∃ r_Outs149 : Sl, ∃ r_Last150 : Int, ∃ r_Cells151 : Sl, w142.cell? ⟨b12, 0, none⟩ = some (.int .i64 r_Start143) ∧ w142.cell? ⟨b12, 1, none⟩ = some (.int .i64 r_Slots144) ∧ w142.cell? ⟨b12, 2, none⟩ = some (.int .i64 r_Backs145) ∧ w142.cell? ⟨b12, 3, none⟩ = some (.int .i64 r_Grow146) ∧ w142.cell? ⟨b12, 4, none⟩ = some (.int .i64 r_GrowBack147) ∧ w142.cell? ⟨b12, 5, none⟩ = some (r_Ins148.val) ∧ w142.cell? ⟨b12, 6, none⟩ = some (r_Outs149.val) ∧ w142.cell? ⟨b12, 7, none⟩ = some (.int .i64 r_Last150) ∧ w142.cell? ⟨b12, 8, none⟩ = some (r_Cells151.val) ∧
 K (.agg #[.int .i64 r_Start143, .int .i64 r_Slots144, .int .i64 r_Backs145, .int .i64 r_Grow146, .int .i64 r_GrowBack147, r_Ins148.val, r_Outs149.val, .int .i64 r_Last150, r_Cells151.val]) w142))
def forward_Do_an : An := ⟨[(7, [(3, .sl), (4, .sl), (18, .int .i64)])], [(17, (9, .st 0 (.st 1 (.st 2 (.st 3 (.st 5 (.st 6 (.st 8 (.ef 4 (.ef 7 .done)))))))), 1))], [(16, [(3, .sl), (4, .sl)])]⟩
theorem forward_Do_lift {t__Start1 : Int} {t__Slots2 : Int} {t__Backs3 : Int} {t__Grow4 : Int} {t__GrowBack5 : Int} {t__Ins6 : Sl} {t__Outs7 : Sl} {t__Last8 : Int} {t__Cells9 : Sl} {w : World} {K : Value → World → Prop} (h : forward_Do_sh t__Start1 t__Slots2 t__Backs3 t__Grow4 t__GrowBack5 t__Ins6 t__Outs7 t__Last8 t__Cells9 w K) : Calls Try.prog fn_forward_Do #[.agg #[.int .i64 t__Start1, .int .i64 t__Slots2, .int .i64 t__Backs3, .int .i64 t__Grow4, .int .i64 t__GrowBack5, t__Ins6.val, t__Outs7.val, .int .i64 t__Last8, t__Cells9.val]] w fun e w' => ∃ v, e = .returned v ∧ K v w' :=
   lift_calls (A := forward_Do_an) (c := bodyOf Try.f36) (args := [.agg #[.int .i64 t__Start1, .int .i64 t__Slots2, .int .i64 t__Backs3, .int .i64 t__Grow4, .int .i64 t__GrowBack5, t__Ins6.val, t__Outs7.val, .int .i64 t__Last8, t__Cells9.val]]) orc orc_wide Try.func36 (by kernel_rfl) (by kernel_rfl) (Eq.mp (by kernel_rfl : forward_Do_sh t__Start1 t__Slots2 t__Backs3 t__Grow4 t__GrowBack5 t__Ins6 t__Outs7 t__Last8 t__Cells9 w K = wpc orc Try.f36.ntmps forward_Do_an (bodyOf Try.f36) (argl 0 [.agg #[.int .i64 t__Start1, .int .i64 t__Slots2, .int .i64 t__Backs3, .int .i64 t__Grow4, .int .i64 t__GrowBack5, t__Ins6.val, t__Outs7.val, .int .i64 t__Last8, t__Cells9.val]]) w (retQ orc Try.f36.results.toList K)) h)

-- holloway/forward.Left
def forward_Left_sh (t__Start1 : Int) (t__Slots2 : Int) (t__Backs3 : Int) (t__Grow4 : Int) (t__GrowBack5 : Int) (t__Ins6 : Sl) (t__Outs7 : Sl) (t__Last8 : Int) (t__Cells9 : Sl) (w : World) (K : Value → World → Prop) : Prop :=
 ∀ (b10 : Nat) (w11 : World), b10 = w.heap.size → w11 = World.alloc w (.cells #[.int .i64 t__Start1, .int .i64 t__Slots2, .int .i64 t__Backs3, .int .i64 t__Grow4, .int .i64 t__GrowBack5, t__Ins6.val, t__Outs7.val, .int .i64 t__Last8, t__Cells9.val] T_api_Trace) →
 Calls Try.prog fn_forward_nothing #[] w11 fun e12 w13 => ∃ m_cells14 : Option Nat, ∃ m_facts15 : Option Nat, ∃ m_alikes16 : Option Nat, e12 = .returned (.agg #[.map m_cells14, .map m_facts15, .map m_alikes16]) ∧
 ∀ (b17 : Nat) (w18 : World), b17 = w13.heap.size → w18 = World.alloc w13 (.cells #[.map none, .map none, .map none] T_forward_known) →
 wrOk w18 ⟨b17, 0, none⟩ 3 ∧ ∀ w19 : World, w19 = stW w18 ⟨b17, 0, none⟩ 0 [.map m_cells14, .map m_facts15, .map m_alikes16] →
 ∃ s20 : Sl, w19.cell? ⟨b10, 5, none⟩ = some (s20.val) ∧
 ∃ (I1 : Int → Int → World → Prop) (μ1 : Int → Int → World → Nat), I1 (0 : Int) (0 : Int) w19 ∧ ∀ (n44 : Int) (n22 : Int) (w21 : World), I1 n44 n22 w21 →
 brB (decide (n22 < (s20.len : Int)))
 (∃ J8 : Int → World → Prop, (∀ (n56 : Int) (w55 : World), J8 n56 w55 →
 I1 n56 (wr (n22 + (1 : Int))) w55 ∧ μ1 n56 (wr (n22 + (1 : Int))) w55 < μ1 n44 n22 w21) ∧
 ∃ a23 : Addr, s20.ptr = some a23 ∧ 0 ≤ n22 ∧ n22 < (s20.len : Int) ∧
 ∃ n_Op24 : Int, ∃ n_A25 : Int, ∃ n_B26 : Int, ∃ n_C27 : Int, ∃ n_X28 : Int, w21.cell? (Addr.add a23 (Int.toNat n22 * 5)) = some (.int .i64 n_Op24) ∧ w21.cell? (Addr.add (Addr.add a23 (Int.toNat n22 * 5)) 1) = some (.int .i64 n_A25) ∧ w21.cell? (Addr.add (Addr.add a23 (Int.toNat n22 * 5)) 2) = some (.int .i64 n_B26) ∧ w21.cell? (Addr.add (Addr.add a23 (Int.toNat n22 * 5)) 3) = some (.int .i64 n_C27) ∧ w21.cell? (Addr.add (Addr.add a23 (Int.toNat n22 * 5)) 4) = some (.int .i64 n_X28) ∧
 ∀ (b29 : Nat) (w30 : World), b29 = w21.heap.size → w30 = World.alloc w21 (.cells #[.int .i64 (0 : Int), .int .i64 (0 : Int), .int .i64 (0 : Int), .int .i64 (0 : Int), .int .i64 (0 : Int)] T_api_Ins) →
 wrOk w30 ⟨b29, 0, none⟩ 5 ∧ ∀ w31 : World, w31 = stW w30 ⟨b29, 0, none⟩ 0 [.int .i64 n_Op24, .int .i64 n_A25, .int .i64 n_B26, .int .i64 n_C27, .int .i64 n_X28] →
 ∃ m_cells32 : Option Nat, ∃ m_facts33 : Option Nat, ∃ m_alikes34 : Option Nat, w31.cell? ⟨b17, 0, none⟩ = some (.map m_cells32) ∧ w31.cell? ⟨b17, 1, none⟩ = some (.map m_facts33) ∧ w31.cell? ⟨b17, 2, none⟩ = some (.map m_alikes34) ∧
 ∃ n_Op35 : Int, ∃ n_A36 : Int, ∃ n_B37 : Int, ∃ n_C38 : Int, ∃ n_X39 : Int, w31.cell? ⟨b29, 0, none⟩ = some (.int .i64 n_Op35) ∧ w31.cell? ⟨b29, 1, none⟩ = some (.int .i64 n_A36) ∧ w31.cell? ⟨b29, 2, none⟩ = some (.int .i64 n_B37) ∧ w31.cell? ⟨b29, 3, none⟩ = some (.int .i64 n_C38) ∧ w31.cell? ⟨b29, 4, none⟩ = some (.int .i64 n_X39) ∧
 Calls Try.prog fn_forward_known_says #[.agg #[.map m_cells32, .map m_facts33, .map m_alikes34], .agg #[.int .i64 n_Op35, .int .i64 n_A36, .int .i64 n_B37, .int .i64 n_C38, .int .i64 n_X39]] w31 fun e40 w41 => ∃ n42 : Int, ∃ b43 : Bool, e40 = .returned (.tuple #[.int .i64 n42, .bool b43]) ∧
 brB b43
 (J8 (wr (n44 + (1 : Int))) w41)
 (∃ m_cells45 : Option Nat, ∃ m_facts46 : Option Nat, ∃ m_alikes47 : Option Nat, w41.cell? ⟨b17, 0, none⟩ = some (.map m_cells45) ∧ w41.cell? ⟨b17, 1, none⟩ = some (.map m_facts46) ∧ w41.cell? ⟨b17, 2, none⟩ = some (.map m_alikes47) ∧
 ∃ n_Op48 : Int, ∃ n_A49 : Int, ∃ n_B50 : Int, ∃ n_C51 : Int, ∃ n_X52 : Int, w41.cell? ⟨b29, 0, none⟩ = some (.int .i64 n_Op48) ∧ w41.cell? ⟨b29, 1, none⟩ = some (.int .i64 n_A49) ∧ w41.cell? ⟨b29, 2, none⟩ = some (.int .i64 n_B50) ∧ w41.cell? ⟨b29, 3, none⟩ = some (.int .i64 n_C51) ∧ w41.cell? ⟨b29, 4, none⟩ = some (.int .i64 n_X52) ∧
 Calls Try.prog fn_forward_known_learn #[.agg #[.map m_cells45, .map m_facts46, .map m_alikes47], .agg #[.int .i64 n_Op48, .int .i64 n_A49, .int .i64 n_B50, .int .i64 n_C51, .int .i64 n_X52], .int .i64 n22] w41 fun e53 w54 => e53 = .returned (.tuple #[]) ∧
 J8 n44 w54))
 (K (.int .i64 n44) w21)
def forward_Left_an : An := ⟨[(4, [(3, .int .i64), (13, .int .i64)])], [], [(10, [(3, .int .i64)])]⟩
theorem forward_Left_lift {t__Start1 : Int} {t__Slots2 : Int} {t__Backs3 : Int} {t__Grow4 : Int} {t__GrowBack5 : Int} {t__Ins6 : Sl} {t__Outs7 : Sl} {t__Last8 : Int} {t__Cells9 : Sl} {w : World} {K : Value → World → Prop} (h : forward_Left_sh t__Start1 t__Slots2 t__Backs3 t__Grow4 t__GrowBack5 t__Ins6 t__Outs7 t__Last8 t__Cells9 w K) : Calls Try.prog fn_forward_Left #[.agg #[.int .i64 t__Start1, .int .i64 t__Slots2, .int .i64 t__Backs3, .int .i64 t__Grow4, .int .i64 t__GrowBack5, t__Ins6.val, t__Outs7.val, .int .i64 t__Last8, t__Cells9.val]] w fun e w' => ∃ v, e = .returned v ∧ K v w' :=
   lift_calls (A := forward_Left_an) (c := bodyOf Try.f38) (args := [.agg #[.int .i64 t__Start1, .int .i64 t__Slots2, .int .i64 t__Backs3, .int .i64 t__Grow4, .int .i64 t__GrowBack5, t__Ins6.val, t__Outs7.val, .int .i64 t__Last8, t__Cells9.val]]) orc orc_wide Try.func38 (by kernel_rfl) (by kernel_rfl) (Eq.mp (by kernel_rfl : forward_Left_sh t__Start1 t__Slots2 t__Backs3 t__Grow4 t__GrowBack5 t__Ins6 t__Outs7 t__Last8 t__Cells9 w K = wpc orc Try.f38.ntmps forward_Left_an (bodyOf Try.f38) (argl 0 [.agg #[.int .i64 t__Start1, .int .i64 t__Slots2, .int .i64 t__Backs3, .int .i64 t__Grow4, .int .i64 t__GrowBack5, t__Ins6.val, t__Outs7.val, .int .i64 t__Last8, t__Cells9.val]]) w (retQ orc Try.f38.results.toList K)) h)

-- holloway/forward.nothing
def forward_nothing_sh  (w : World) (K : Value → World → Prop) : Prop :=
 ∀ (b1 : Nat) (w2 : World), b1 = w.heap.size → w2 = World.alloc w (.cells #[.map none, .map none, .map none] T_forward_known) →
 ∀ (b3 : Nat) (w4 : World), b3 = w2.heap.size → w4 = World.alloc w2 (.map #[] 0) →
 ∀ (b5 : Nat) (w6 : World), b5 = w4.heap.size → w6 = World.alloc w4 (.map #[] 0) →
 ∀ (b7 : Nat) (w8 : World), b7 = w6.heap.size → w8 = World.alloc w6 (.map #[] 0) →
 wrOk w8 ⟨b1, 0, none⟩ 3 ∧ ∀ w9 : World, w9 = stW w8 ⟨b1, 0, none⟩ 0 [.map (some b3), .map (some b5), .map (some b7)] →
 ∃ r_cells10 : Option Nat, ∃ r_facts11 : Option Nat, ∃ r_alikes12 : Option Nat, w9.cell? ⟨b1, 0, none⟩ = some (.map r_cells10) ∧ w9.cell? ⟨b1, 1, none⟩ = some (.map r_facts11) ∧ w9.cell? ⟨b1, 2, none⟩ = some (.map r_alikes12) ∧
 K (.agg #[.map r_cells10, .map r_facts11, .map r_alikes12]) w9
def forward_nothing_an : An := ⟨[], [], []⟩
theorem forward_nothing_lift  {w : World} {K : Value → World → Prop} (h : forward_nothing_sh  w K) : Calls Try.prog fn_forward_nothing #[] w fun e w' => ∃ v, e = .returned v ∧ K v w' :=
   lift_calls (A := forward_nothing_an) (c := bodyOf Try.f102) (args := []) orc orc_wide Try.func102 (by kernel_rfl) (by kernel_rfl) (Eq.mp (by kernel_rfl : forward_nothing_sh  w K = wpc orc Try.f102.ntmps forward_nothing_an (bodyOf Try.f102) (argl 0 []) w (retQ orc Try.f102.results.toList K)) h)

-- (holloway/forward.known).says
def forward_known_says_sh (k__cells1 : Option Nat) (k__facts2 : Option Nat) (k__alikes3 : Option Nat) (i__Op4 : Int) (i__A5 : Int) (i__B6 : Int) (i__C7 : Int) (i__X8 : Int) (w : World) (K : Value → World → Prop) : Prop :=
 ∀ (b9 : Nat) (w10 : World), b9 = w.heap.size → w10 = World.alloc w (.cells #[.map k__cells1, .map k__facts2, .map k__alikes3] T_forward_known) →
 ∀ (b11 : Nat) (w12 : World), b11 = w10.heap.size → w12 = World.alloc w10 (.cells #[.int .i64 i__Op4, .int .i64 i__A5, .int .i64 i__B6, .int .i64 i__C7, .int .i64 i__X8] T_api_Ins) →
 ∃ n13 : Int, w12.cell? ⟨b11, 0, none⟩ = some (.int .i64 n13) ∧
 ∃ J5 : World → Prop, (∀ (w19 : World), J5  w19 →
 ∀ w20 : World, w20 = World.drew w19 →
 ∃ S21 : World → Prop, S21 w20 ∧
 ∃ m22 : Option Nat, held S21 ⟨b9, 1, none⟩ (.map m22) ∧
 ∃ n23 : Int, held S21 ⟨b11, 0, none⟩ (.int .i64 n23) ∧
 ∃ n24 : Int, held S21 ⟨b11, 2, none⟩ (.int .i64 n24) ∧
 S21 w20 ∧
 ∃ b26 : Bool, ∃ w25 : World, (Instr.lookup T_map_2_int_bool (.map m22) (.agg #[.int .i64 n23, .int .i64 n24]) false).run Try.prog w20 = .ok (.bool b26) w25 ∧
 S21 w25 ∧
 K (.tuple #[.int .i64 (-1 : Int), .bool b26]) w25) ∧
 brB (n13 == (5 : Int))
 (∃ m14 : Option Nat, w12.cell? ⟨b9, 0, none⟩ = some (.map m14) ∧
 ∃ n15 : Int, w12.cell? ⟨b11, 2, none⟩ = some (.int .i64 n15) ∧
 ∃ (v17 : Value) (b18 : Bool) (w16 : World), (Instr.lookup T_map_int_int (.map m14) (.int .i64 n15) true).run Try.prog w12 = .ok (.tuple #[v17, .bool b18]) w16 ∧
 K (.tuple #[v17, .bool b18]) w16)
 (brB (n13 == (7 : Int))
 (J5  w12)
 (brB (n13 == (8 : Int))
 (J5  w12)
 (brB (n13 == (9 : Int))
 (∀ w27 : World, w27 = World.drew w12 →
 ∃ S28 : World → Prop, S28 w27 ∧
 ∃ m29 : Option Nat, held S28 ⟨b9, 2, none⟩ (.map m29) ∧
 ∃ n30 : Int, held S28 ⟨b11, 2, none⟩ (.int .i64 n30) ∧
 ∃ n31 : Int, held S28 ⟨b11, 3, none⟩ (.int .i64 n31) ∧
 Calls Try.prog fn_forward_pair #[.int .i64 n30, .int .i64 n31] w27 fun e32 w33 => ∃ n_0_34 : Int, ∃ n_1_35 : Int, e32 = .returned (.agg #[.int .i64 n_0_34, .int .i64 n_1_35]) ∧
 S28 w33 ∧
 ∃ b37 : Bool, ∃ w36 : World, (Instr.lookup T_map_2_int_bool (.map m29) (.agg #[.int .i64 n_0_34, .int .i64 n_1_35]) false).run Try.prog w33 = .ok (.bool b37) w36 ∧
 S28 w36 ∧
 K (.tuple #[.int .i64 (-1 : Int), .bool b37]) w36)
 (K (.tuple #[.int .i64 (-1 : Int), .bool false]) w12))))
def forward_known_says_an : An := ⟨[], [(8, (9, .st 0 (.st 1 (.st 2 (.st 3 (.st 4 (.st 5 (.st 8 (.ef 6 (.ef 7 .done)))))))), 1)), (9, (9, .st 0 (.st 1 (.st 2 (.st 3 (.st 4 (.st 5 (.ef 6 (.st 8 (.ef 7 .done)))))))), 1))], [(8, [])]⟩
theorem forward_known_says_lift {k__cells1 : Option Nat} {k__facts2 : Option Nat} {k__alikes3 : Option Nat} {i__Op4 : Int} {i__A5 : Int} {i__B6 : Int} {i__C7 : Int} {i__X8 : Int} {w : World} {K : Value → World → Prop} (h : forward_known_says_sh k__cells1 k__facts2 k__alikes3 i__Op4 i__A5 i__B6 i__C7 i__X8 w K) : Calls Try.prog fn_forward_known_says #[.agg #[.map k__cells1, .map k__facts2, .map k__alikes3], .agg #[.int .i64 i__Op4, .int .i64 i__A5, .int .i64 i__B6, .int .i64 i__C7, .int .i64 i__X8]] w fun e w' => ∃ v, e = .returned v ∧ K v w' :=
   lift_calls (A := forward_known_says_an) (c := bodyOf Try.f103) (args := [.agg #[.map k__cells1, .map k__facts2, .map k__alikes3], .agg #[.int .i64 i__Op4, .int .i64 i__A5, .int .i64 i__B6, .int .i64 i__C7, .int .i64 i__X8]]) orc orc_wide Try.func103 (by kernel_rfl) (by kernel_rfl) (Eq.mp (by kernel_rfl : forward_known_says_sh k__cells1 k__facts2 k__alikes3 i__Op4 i__A5 i__B6 i__C7 i__X8 w K = wpc orc Try.f103.ntmps forward_known_says_an (bodyOf Try.f103) (argl 0 [.agg #[.map k__cells1, .map k__facts2, .map k__alikes3], .agg #[.int .i64 i__Op4, .int .i64 i__A5, .int .i64 i__B6, .int .i64 i__C7, .int .i64 i__X8]]) w (retQ orc Try.f103.results.toList K)) h)

-- (holloway/forward.known).learn
def forward_known_learn_j1 (b10 : Nat) (b12 : Nat) (n14 : Int) (b18 : Bool) (w17 : World) (K : Value → World → Prop) : Prop :=
 brB b18
 (∃ m28 : Option Nat, w17.cell? ⟨b10, 1, none⟩ = some (.map m28) ∧
 ∃ n29 : Int, w17.cell? ⟨b12, 0, none⟩ = some (.int .i64 n29) ∧
 ∃ n30 : Int, w17.cell? ⟨b12, 2, none⟩ = some (.int .i64 n30) ∧
 ∃ w31 : World, (Instr.mapUpdate T_map_2_int_bool (.map m28) (.agg #[.int .i64 n29, .int .i64 n30]) (.bool true)).run Try.prog w17 = .ok () w31 ∧
 K (.tuple #[]) w31)
 (brB (n14 == (9 : Int))
 (∀ w32 : World, w32 = World.drew w17 →
 ∃ S33 : World → Prop, S33 w32 ∧
 ∃ m34 : Option Nat, held S33 ⟨b10, 2, none⟩ (.map m34) ∧
 ∃ n35 : Int, held S33 ⟨b12, 2, none⟩ (.int .i64 n35) ∧
 ∃ n36 : Int, held S33 ⟨b12, 3, none⟩ (.int .i64 n36) ∧
 Calls Try.prog fn_forward_pair #[.int .i64 n35, .int .i64 n36] w32 fun e37 w38 => ∃ n_0_39 : Int, ∃ n_1_40 : Int, e37 = .returned (.agg #[.int .i64 n_0_39, .int .i64 n_1_40]) ∧
 S33 w38 ∧
 ∃ w41 : World, (Instr.mapUpdate T_map_2_int_bool (.map m34) (.agg #[.int .i64 n_0_39, .int .i64 n_1_40]) (.bool true)).run Try.prog w38 = .ok () w41 ∧
 K (.tuple #[]) w41)
 (K (.tuple #[]) w17))
def forward_known_learn_sh (k__cells1 : Option Nat) (k__facts2 : Option Nat) (k__alikes3 : Option Nat) (i__Op4 : Int) (i__A5 : Int) (i__B6 : Int) (i__C7 : Int) (i__X8 : Int) (place9 : Int) (w : World) (K : Value → World → Prop) : Prop :=
 ∀ (b10 : Nat) (w11 : World), b10 = w.heap.size → w11 = World.alloc w (.cells #[.map k__cells1, .map k__facts2, .map k__alikes3] T_forward_known) →
 ∀ (b12 : Nat) (w13 : World), b12 = w11.heap.size → w13 = World.alloc w11 (.cells #[.int .i64 i__Op4, .int .i64 i__A5, .int .i64 i__B6, .int .i64 i__C7, .int .i64 i__X8] T_api_Ins) →
 ∃ n14 : Int, w13.cell? ⟨b12, 0, none⟩ = some (.int .i64 n14) ∧
 ∃ J5 : Int → World → Prop, (∀ (place26 : Int) (w23 : World), J5 place26 w23 →
 ∃ m24 : Option Nat, w23.cell? ⟨b10, 0, none⟩ = some (.map m24) ∧
 ∃ n25 : Int, w23.cell? ⟨b12, 2, none⟩ = some (.int .i64 n25) ∧
 ∃ w27 : World, (Instr.mapUpdate T_map_int_int (.map m24) (.int .i64 n25) (.int .i64 place26)).run Try.prog w23 = .ok () w27 ∧
 K (.tuple #[]) w27) ∧
 brB (n14 == (6 : Int))
 (∃ m19 : Option Nat, w13.cell? ⟨b10, 0, none⟩ = some (.map m19) ∧
 ∃ v20 : Value, ∃ w21 : World, (Builtin.clear_ #[T_map_int_int] T_x #[.map m19]).run Try.prog w13 = .ok v20 w21 ∧
 ∃ n22 : Int, w21.cell? ⟨b12, 3, none⟩ = some (.int .i64 n22) ∧
 J5 n22 w21)
 (brB (n14 == (5 : Int))
 (J5 place9 w13)
 (brB (n14 == (7 : Int))
 (forward_known_learn_j1 b10 b12 n14 (n14 == (7 : Int)) w13 K)
 (forward_known_learn_j1 b10 b12 n14 (n14 == (8 : Int)) w13 K)))
def forward_known_learn_an : An := ⟨[], [(11, (7, .st 0 (.st 1 (.st 2 (.st 3 (.st 4 (.st 5 (.ef 6 .done)))))), 1))], [(9, [(2, .int .i64)])]⟩
theorem forward_known_learn_lift {k__cells1 : Option Nat} {k__facts2 : Option Nat} {k__alikes3 : Option Nat} {i__Op4 : Int} {i__A5 : Int} {i__B6 : Int} {i__C7 : Int} {i__X8 : Int} {place9 : Int} {w : World} {K : Value → World → Prop} (h : forward_known_learn_sh k__cells1 k__facts2 k__alikes3 i__Op4 i__A5 i__B6 i__C7 i__X8 place9 w K) : Calls Try.prog fn_forward_known_learn #[.agg #[.map k__cells1, .map k__facts2, .map k__alikes3], .agg #[.int .i64 i__Op4, .int .i64 i__A5, .int .i64 i__B6, .int .i64 i__C7, .int .i64 i__X8], .int .i64 place9] w fun e w' => ∃ v, e = .returned v ∧ K v w' :=
   lift_calls (A := forward_known_learn_an) (c := bodyOf Try.f104) (args := [.agg #[.map k__cells1, .map k__facts2, .map k__alikes3], .agg #[.int .i64 i__Op4, .int .i64 i__A5, .int .i64 i__B6, .int .i64 i__C7, .int .i64 i__X8], .int .i64 place9]) orc orc_wide Try.func104 (by kernel_rfl) (by kernel_rfl) (Eq.mp (by kernel_rfl : forward_known_learn_sh k__cells1 k__facts2 k__alikes3 i__Op4 i__A5 i__B6 i__C7 i__X8 place9 w K = wpc orc Try.f104.ntmps forward_known_learn_an (bodyOf Try.f104) (argl 0 [.agg #[.map k__cells1, .map k__facts2, .map k__alikes3], .agg #[.int .i64 i__Op4, .int .i64 i__A5, .int .i64 i__B6, .int .i64 i__C7, .int .i64 i__X8], .int .i64 place9]) w (retQ orc Try.f104.results.toList K)) h)

-- holloway/forward.pair
def forward_pair_sh (a_1 : Int) (b_2 : Int) (w : World) (K : Value → World → Prop) : Prop :=
 ∀ (b3 : Nat) (w4 : World), b3 = w.heap.size → w4 = World.alloc w (.cells #[.int .i64 (0 : Int), .int .i64 (0 : Int)] T_2_int) →
 wrOk w4 ⟨b3, 0, none⟩ 2 ∧ ∀ w5 : World, w5 = stW w4 ⟨b3, 0, none⟩ 0 [.int .i64 (imin a_1 b_2), .int .i64 (imax a_1 b_2)] →
 ∃ r_0_6 : Int, ∃ r_1_7 : Int, w5.cell? ⟨b3, 0, none⟩ = some (.int .i64 r_0_6) ∧ w5.cell? ⟨b3, 1, none⟩ = some (.int .i64 r_1_7) ∧
 K (.agg #[.int .i64 r_0_6, .int .i64 r_1_7]) w5
def forward_pair_an : An := ⟨[], [], []⟩
theorem forward_pair_lift {a_1 : Int} {b_2 : Int} {w : World} {K : Value → World → Prop} (h : forward_pair_sh a_1 b_2 w K) : Calls Try.prog fn_forward_pair #[.int .i64 a_1, .int .i64 b_2] w fun e w' => ∃ v, e = .returned v ∧ K v w' :=
   lift_calls (A := forward_pair_an) (c := bodyOf Try.f145) (args := [.int .i64 a_1, .int .i64 b_2]) orc orc_wide Try.func145 (by kernel_rfl) (by kernel_rfl) (Eq.mp (by kernel_rfl : forward_pair_sh a_1 b_2 w K = wpc orc Try.f145.ntmps forward_pair_an (bodyOf Try.f145) (argl 0 [.int .i64 a_1, .int .i64 b_2]) w (retQ orc Try.f145.results.toList K)) h)

end Go.Proofs.Ytblmoilneiffgaa

/- Functions of Prune, read without their frames; that each is enough. Printed by a program of mine (wip/lift/gen.py). -/
set_option maxRecDepth 100000
namespace Go.Proofs.Ytblmoilneiffgaa
open Go.RowKit

-- holloway/prune.Do
-- holloway/prune.Left
-- holloway/prune.begin
-- holloway/prune.pure
-- (*holloway/prune.need).all
-- holloway/prune.renamed
-- (*holloway/prune.need).exit
-- (*holloway/prune.need).places
end Go.Proofs.Ytblmoilneiffgaa
