/- The lifted texts of the packages ir, fold, forward, prune. -/
import Derived.Test.YtblmoilneiffgaaJ4

/- Functions of Ir, read without their frames; that each is enough. Printed by a program of mine (wip/lift/gen.py). -/
set_option maxRecDepth 100000
namespace Go.Proofs.Ytblmoilneiffgaa
open Go.RowKit

-- holloway/ir.Right
def ir_Right_sh (t__Start1 : Int) (t__Slots2 : Int) (t__Backs3 : Int) (t__Grow4 : Int) (t__GrowBack5 : Int) (t__Ins6 : Sl) (t__Outs7 : Sl) (t__Last8 : Int) (t__Cells9 : Sl) (w : World) (K : Value → World → Prop) : Prop :=
 ∀ (b10 : Nat) (w11 : World), b10 = w.heap.size → w11 = World.alloc w (.cells #[.int .i64 t__Start1, .int .i64 t__Slots2, .int .i64 t__Backs3, .int .i64 t__Grow4, .int .i64 t__GrowBack5, t__Ins6.val, t__Outs7.val, .int .i64 t__Last8, t__Cells9.val] T_api_Trace) →
 ∃ J3 : Bool → World → Prop, (∀ (b47 : Bool) (w46 : World), J3 b47 w46 →
 brB b47
 (K (.bool false) w46)
 (∃ s48 : Sl, w46.cell? ⟨b10, 6, none⟩ = some (s48.val) ∧
 ∃ (I1 : Int → World → Prop) (μ1 : Int → World → Nat), I1 (0 : Int) w46 ∧ ∀ (n50 : Int) (w49 : World), I1 n50 w49 →
 brB (decide (n50 < (s48.len : Int)))
 (∃ a51 : Addr, s48.ptr = some a51 ∧ 0 ≤ n50 ∧ n50 < (s48.len : Int) ∧
 ∃ n_Ip52 : Int, ∃ n_Steps53 : Int, ∃ s_Stack54 : Sl, ∃ s_Back55 : Sl, w49.cell? (Addr.add a51 (Int.toNat n50 * 4)) = some (.int .i64 n_Ip52) ∧ w49.cell? (Addr.add (Addr.add a51 (Int.toNat n50 * 4)) 1) = some (.int .i64 n_Steps53) ∧ w49.cell? (Addr.add (Addr.add a51 (Int.toNat n50 * 4)) 2) = some (s_Stack54.val) ∧ w49.cell? (Addr.add (Addr.add a51 (Int.toNat n50 * 4)) 3) = some (s_Back55.val) ∧
 ∀ (b56 : Nat) (w57 : World), b56 = w49.heap.size → w57 = World.alloc w49 (.cells #[.int .i64 (0 : Int), .int .i64 (0 : Int), .slice none 0 0, .slice none 0 0] T_api_Out) →
 wrOk w57 ⟨b56, 0, none⟩ 4 ∧ ∀ w58 : World, w58 = stW w57 ⟨b56, 0, none⟩ 0 [.int .i64 n_Ip52, .int .i64 n_Steps53, s_Stack54.val, s_Back55.val] →
 ∃ n_Start59 : Int, ∃ n_Slots60 : Int, ∃ n_Backs61 : Int, ∃ n_Grow62 : Int, ∃ n_GrowBack63 : Int, ∃ s_Ins64 : Sl, ∃ s_Outs65 : Sl, ∃ n_Last66 : Int, ∃ s_Cells67 : Sl, w58.cell? ⟨b10, 0, none⟩ = some (.int .i64 n_Start59) ∧ w58.cell? ⟨b10, 1, none⟩ = some (.int .i64 n_Slots60) ∧ w58.cell? ⟨b10, 2, none⟩ = some (.int .i64 n_Backs61) ∧ w58.cell? ⟨b10, 3, none⟩ = some (.int .i64 n_Grow62) ∧ w58.cell? ⟨b10, 4, none⟩ = some (.int .i64 n_GrowBack63) ∧ w58.cell? ⟨b10, 5, none⟩ = some (s_Ins64.val) ∧ w58.cell? ⟨b10, 6, none⟩ = some (s_Outs65.val) ∧ w58.cell? ⟨b10, 7, none⟩ = some (.int .i64 n_Last66) ∧ w58.cell? ⟨b10, 8, none⟩ = some (s_Cells67.val) ∧
 ∃ n_Ip68 : Int, ∃ n_Steps69 : Int, ∃ s_Stack70 : Sl, ∃ s_Back71 : Sl, w58.cell? ⟨b56, 0, none⟩ = some (.int .i64 n_Ip68) ∧ w58.cell? ⟨b56, 1, none⟩ = some (.int .i64 n_Steps69) ∧ w58.cell? ⟨b56, 2, none⟩ = some (s_Stack70.val) ∧ w58.cell? ⟨b56, 3, none⟩ = some (s_Back71.val) ∧
 Calls Try.prog fn_ir_out #[.agg #[.int .i64 n_Start59, .int .i64 n_Slots60, .int .i64 n_Backs61, .int .i64 n_Grow62, .int .i64 n_GrowBack63, s_Ins64.val, s_Outs65.val, .int .i64 n_Last66, s_Cells67.val], .agg #[.int .i64 n_Ip68, .int .i64 n_Steps69, s_Stack70.val, s_Back71.val]] w58 fun e72 w73 => ∃ b74 : Bool, e72 = .returned (.bool b74) ∧
 brB (!b74)
 (K (.bool false) w73)
 (I1 (wr (n50 + (1 : Int))) w73 ∧ μ1 (wr (n50 + (1 : Int))) w73 < μ1 n50 w49))
 (∃ s75 : Sl, w49.cell? ⟨b10, 5, none⟩ = some (s75.val) ∧
 ∃ (I2 : Int → World → Prop) (μ2 : Int → World → Nat), I2 (0 : Int) w49 ∧ ∀ (n77 : Int) (w76 : World), I2 n77 w76 →
 brB (decide (n77 < (s75.len : Int)))
 (∃ a78 : Addr, s75.ptr = some a78 ∧ 0 ≤ n77 ∧ n77 < (s75.len : Int) ∧
 ∃ n_Op79 : Int, ∃ n_A80 : Int, ∃ n_B81 : Int, ∃ n_C82 : Int, ∃ n_X83 : Int, w76.cell? (Addr.add a78 (Int.toNat n77 * 5)) = some (.int .i64 n_Op79) ∧ w76.cell? (Addr.add (Addr.add a78 (Int.toNat n77 * 5)) 1) = some (.int .i64 n_A80) ∧ w76.cell? (Addr.add (Addr.add a78 (Int.toNat n77 * 5)) 2) = some (.int .i64 n_B81) ∧ w76.cell? (Addr.add (Addr.add a78 (Int.toNat n77 * 5)) 3) = some (.int .i64 n_C82) ∧ w76.cell? (Addr.add (Addr.add a78 (Int.toNat n77 * 5)) 4) = some (.int .i64 n_X83) ∧
 ∀ (b84 : Nat) (w85 : World), b84 = w76.heap.size → w85 = World.alloc w76 (.cells #[.int .i64 (0 : Int), .int .i64 (0 : Int), .int .i64 (0 : Int), .int .i64 (0 : Int), .int .i64 (0 : Int)] T_api_Ins) →
 wrOk w85 ⟨b84, 0, none⟩ 5 ∧ ∀ w86 : World, w86 = stW w85 ⟨b84, 0, none⟩ 0 [.int .i64 n_Op79, .int .i64 n_A80, .int .i64 n_B81, .int .i64 n_C82, .int .i64 n_X83] →
 ∃ J20 : Bool → World → Prop, (∀ (b127 : Bool) (w126 : World), J20 b127 w126 →
 brB b127
 (K (.bool false) w126)
 (∃ n_Op128 : Int, ∃ n_A129 : Int, ∃ n_B130 : Int, ∃ n_C131 : Int, ∃ n_X132 : Int, w126.cell? ⟨b84, 0, none⟩ = some (.int .i64 n_Op128) ∧ w126.cell? ⟨b84, 1, none⟩ = some (.int .i64 n_A129) ∧ w126.cell? ⟨b84, 2, none⟩ = some (.int .i64 n_B130) ∧ w126.cell? ⟨b84, 3, none⟩ = some (.int .i64 n_C131) ∧ w126.cell? ⟨b84, 4, none⟩ = some (.int .i64 n_X132) ∧
 Calls Try.prog fn_ir_Outs #[.agg #[.int .i64 n_Op128, .int .i64 n_A129, .int .i64 n_B130, .int .i64 n_C131, .int .i64 n_X132]] w126 fun e133 w134 => ∃ s135 : Sl, e133 = .returned (s135.val) ∧
 ∃ (I3 : Int → World → Prop) (μ3 : Int → World → Nat), I3 (0 : Int) w134 ∧ ∀ (n137 : Int) (w136 : World), I3 n137 w136 →
 brB (decide (n137 < (s135.len : Int)))
 (∃ a138 : Addr, s135.ptr = some a138 ∧ 0 ≤ n137 ∧ n137 < (s135.len : Int) ∧
 ∃ n139 : Int, w136.cell? (Addr.add a138 (Int.toNat n137 * 1)) = some (.int .i64 n139) ∧
 ∃ n_Start140 : Int, ∃ n_Slots141 : Int, ∃ n_Backs142 : Int, ∃ n_Grow143 : Int, ∃ n_GrowBack144 : Int, ∃ s_Ins145 : Sl, ∃ s_Outs146 : Sl, ∃ n_Last147 : Int, ∃ s_Cells148 : Sl, w136.cell? ⟨b10, 0, none⟩ = some (.int .i64 n_Start140) ∧ w136.cell? ⟨b10, 1, none⟩ = some (.int .i64 n_Slots141) ∧ w136.cell? ⟨b10, 2, none⟩ = some (.int .i64 n_Backs142) ∧ w136.cell? ⟨b10, 3, none⟩ = some (.int .i64 n_Grow143) ∧ w136.cell? ⟨b10, 4, none⟩ = some (.int .i64 n_GrowBack144) ∧ w136.cell? ⟨b10, 5, none⟩ = some (s_Ins145.val) ∧ w136.cell? ⟨b10, 6, none⟩ = some (s_Outs146.val) ∧ w136.cell? ⟨b10, 7, none⟩ = some (.int .i64 n_Last147) ∧ w136.cell? ⟨b10, 8, none⟩ = some (s_Cells148.val) ∧
 Calls Try.prog fn_ir_named #[.agg #[.int .i64 n_Start140, .int .i64 n_Slots141, .int .i64 n_Backs142, .int .i64 n_Grow143, .int .i64 n_GrowBack144, s_Ins145.val, s_Outs146.val, .int .i64 n_Last147, s_Cells148.val], .int .i64 n139, .int .i64 n77] w136 fun e149 w150 => ∃ b151 : Bool, e149 = .returned (.bool b151) ∧
 brB (!b151)
 (K (.bool false) w150)
 (I3 (wr (n137 + (1 : Int))) w150 ∧ μ3 (wr (n137 + (1 : Int))) w150 < μ3 n137 w136))
 (I2 (wr (n77 + (1 : Int))) w136 ∧ μ2 (wr (n77 + (1 : Int))) w136 < μ2 n77 w76))) ∧
 ∀ w87 : World, w87 = World.drew w86 →
 ∃ S88 : World → Prop, S88 w87 ∧
 ∃ n_Start89 : Int, ∃ n_Slots90 : Int, ∃ n_Backs91 : Int, ∃ n_Grow92 : Int, ∃ n_GrowBack93 : Int, ∃ s_Ins94 : Sl, ∃ s_Outs95 : Sl, ∃ n_Last96 : Int, ∃ s_Cells97 : Sl, held S88 ⟨b10, 0, none⟩ (.int .i64 n_Start89) ∧ held S88 ⟨b10, 1, none⟩ (.int .i64 n_Slots90) ∧ held S88 ⟨b10, 2, none⟩ (.int .i64 n_Backs91) ∧ held S88 ⟨b10, 3, none⟩ (.int .i64 n_Grow92) ∧ held S88 ⟨b10, 4, none⟩ (.int .i64 n_GrowBack93) ∧ held S88 ⟨b10, 5, none⟩ (s_Ins94.val) ∧ held S88 ⟨b10, 6, none⟩ (s_Outs95.val) ∧ held S88 ⟨b10, 7, none⟩ (.int .i64 n_Last96) ∧ held S88 ⟨b10, 8, none⟩ (s_Cells97.val) ∧
 ∃ n_Op98 : Int, ∃ n_A99 : Int, ∃ n_B100 : Int, ∃ n_C101 : Int, ∃ n_X102 : Int, held S88 ⟨b84, 0, none⟩ (.int .i64 n_Op98) ∧ held S88 ⟨b84, 1, none⟩ (.int .i64 n_A99) ∧ held S88 ⟨b84, 2, none⟩ (.int .i64 n_B100) ∧ held S88 ⟨b84, 3, none⟩ (.int .i64 n_C101) ∧ held S88 ⟨b84, 4, none⟩ (.int .i64 n_X102) ∧
 Calls Try.prog fn_ir_single #[.agg #[.int .i64 n_Start89, .int .i64 n_Slots90, .int .i64 n_Backs91, .int .i64 n_Grow92, .int .i64 n_GrowBack93, s_Ins94.val, s_Outs95.val, .int .i64 n_Last96, s_Cells97.val], .agg #[.int .i64 n_Op98, .int .i64 n_A99, .int .i64 n_B100, .int .i64 n_C101, .int .i64 n_X102]] w87 fun e103 w104 => ∃ b105 : Bool, e103 = .returned (.bool b105) ∧
 S88 w104 ∧
 brB (!b105)
 (J20 true w104)
 (∃ n_Start106 : Int, ∃ n_Slots107 : Int, ∃ n_Backs108 : Int, ∃ n_Grow109 : Int, ∃ n_GrowBack110 : Int, ∃ s_Ins111 : Sl, ∃ s_Outs112 : Sl, ∃ n_Last113 : Int, ∃ s_Cells114 : Sl, held S88 ⟨b10, 0, none⟩ (.int .i64 n_Start106) ∧ held S88 ⟨b10, 1, none⟩ (.int .i64 n_Slots107) ∧ held S88 ⟨b10, 2, none⟩ (.int .i64 n_Backs108) ∧ held S88 ⟨b10, 3, none⟩ (.int .i64 n_Grow109) ∧ held S88 ⟨b10, 4, none⟩ (.int .i64 n_GrowBack110) ∧ held S88 ⟨b10, 5, none⟩ (s_Ins111.val) ∧ held S88 ⟨b10, 6, none⟩ (s_Outs112.val) ∧ held S88 ⟨b10, 7, none⟩ (.int .i64 n_Last113) ∧ held S88 ⟨b10, 8, none⟩ (s_Cells114.val) ∧
 ∃ n_Op115 : Int, ∃ n_A116 : Int, ∃ n_B117 : Int, ∃ n_C118 : Int, ∃ n_X119 : Int, held S88 ⟨b84, 0, none⟩ (.int .i64 n_Op115) ∧ held S88 ⟨b84, 1, none⟩ (.int .i64 n_A116) ∧ held S88 ⟨b84, 2, none⟩ (.int .i64 n_B117) ∧ held S88 ⟨b84, 3, none⟩ (.int .i64 n_C118) ∧ held S88 ⟨b84, 4, none⟩ (.int .i64 n_X119) ∧
 Calls Try.prog fn_ir_Uses #[.agg #[.int .i64 n_Op115, .int .i64 n_A116, .int .i64 n_B117, .int .i64 n_C118, .int .i64 n_X119]] w104 fun e120 w121 => ∃ s122 : Sl, e120 = .returned (s122.val) ∧
 S88 w121 ∧
 Calls Try.prog fn_ir_places #[.agg #[.int .i64 n_Start106, .int .i64 n_Slots107, .int .i64 n_Backs108, .int .i64 n_Grow109, .int .i64 n_GrowBack110, s_Ins111.val, s_Outs112.val, .int .i64 n_Last113, s_Cells114.val], s122.val, .int .i64 n77] w121 fun e123 w124 => ∃ b125 : Bool, e123 = .returned (.bool b125) ∧
 J20 (!b125) w124))
 (K (.bool true) w76)))) ∧
 ∃ n_Start12 : Int, ∃ n_Slots13 : Int, ∃ n_Backs14 : Int, ∃ n_Grow15 : Int, ∃ n_GrowBack16 : Int, ∃ s_Ins17 : Sl, ∃ s_Outs18 : Sl, ∃ n_Last19 : Int, ∃ s_Cells20 : Sl, w11.cell? ⟨b10, 0, none⟩ = some (.int .i64 n_Start12) ∧ w11.cell? ⟨b10, 1, none⟩ = some (.int .i64 n_Slots13) ∧ w11.cell? ⟨b10, 2, none⟩ = some (.int .i64 n_Backs14) ∧ w11.cell? ⟨b10, 3, none⟩ = some (.int .i64 n_Grow15) ∧ w11.cell? ⟨b10, 4, none⟩ = some (.int .i64 n_GrowBack16) ∧ w11.cell? ⟨b10, 5, none⟩ = some (s_Ins17.val) ∧ w11.cell? ⟨b10, 6, none⟩ = some (s_Outs18.val) ∧ w11.cell? ⟨b10, 7, none⟩ = some (.int .i64 n_Last19) ∧ w11.cell? ⟨b10, 8, none⟩ = some (s_Cells20.val) ∧
 Calls Try.prog fn_ir_head #[.agg #[.int .i64 n_Start12, .int .i64 n_Slots13, .int .i64 n_Backs14, .int .i64 n_Grow15, .int .i64 n_GrowBack16, s_Ins17.val, s_Outs18.val, .int .i64 n_Last19, s_Cells20.val]] w11 fun e21 w22 => ∃ b23 : Bool, e21 = .returned (.bool b23) ∧
 brB (!b23)
 (J3 true w22)
 (∃ s24 : Sl, w22.cell? ⟨b10, 8, none⟩ = some (s24.val) ∧
 Calls Try.prog fn_ir_cells #[s24.val] w22 fun e25 w26 => ∃ b27 : Bool, e25 = .returned (.bool b27) ∧
 brB (!b27)
 (J3 true w26)
 (∃ n_Start28 : Int, ∃ n_Slots29 : Int, ∃ n_Backs30 : Int, ∃ n_Grow31 : Int, ∃ n_GrowBack32 : Int, ∃ s_Ins33 : Sl, ∃ s_Outs34 : Sl, ∃ n_Last35 : Int, ∃ s_Cells36 : Sl, w26.cell? ⟨b10, 0, none⟩ = some (.int .i64 n_Start28) ∧ w26.cell? ⟨b10, 1, none⟩ = some (.int .i64 n_Slots29) ∧ w26.cell? ⟨b10, 2, none⟩ = some (.int .i64 n_Backs30) ∧ w26.cell? ⟨b10, 3, none⟩ = some (.int .i64 n_Grow31) ∧ w26.cell? ⟨b10, 4, none⟩ = some (.int .i64 n_GrowBack32) ∧ w26.cell? ⟨b10, 5, none⟩ = some (s_Ins33.val) ∧ w26.cell? ⟨b10, 6, none⟩ = some (s_Outs34.val) ∧ w26.cell? ⟨b10, 7, none⟩ = some (.int .i64 n_Last35) ∧ w26.cell? ⟨b10, 8, none⟩ = some (s_Cells36.val) ∧
 ∃ n37 : Int, w26.cell? ⟨b10, 7, none⟩ = some (.int .i64 n37) ∧
 ∃ s38 : Sl, w26.cell? ⟨b10, 5, none⟩ = some (s38.val) ∧
 Calls Try.prog fn_ir_named #[.agg #[.int .i64 n_Start28, .int .i64 n_Slots29, .int .i64 n_Backs30, .int .i64 n_Grow31, .int .i64 n_GrowBack32, s_Ins33.val, s_Outs34.val, .int .i64 n_Last35, s_Cells36.val], .int .i64 n37, .int .i64 (s38.len : Int)] w26 fun e39 w40 => ∃ b41 : Bool, e39 = .returned (.bool b41) ∧
 brB (!b41)
 (J3 true w40)
 (∃ s42 : Sl, w40.cell? ⟨b10, 6, none⟩ = some (s42.val) ∧
 ∃ n43 : Int, w40.cell? ⟨b10, 7, none⟩ = some (.int .i64 n43) ∧
 ∃ a44 : Addr, s42.ptr = some a44 ∧ 0 ≤ n43 ∧ n43 < (s42.len : Int) ∧
 ∃ n45 : Int, w40.cell? (Addr.add (Addr.add a44 (Int.toNat n43 * 4)) 1) = some (.int .i64 n45) ∧
 J3 (decide (n45 < (1 : Int))) w40)))
def ir_Right_an : An := ⟨[(4, [(41, .int .i64)]), (10, [(53, .int .i64)]), (15, [(73, .int .i64)])], [(12, (9, .st 0 (.st 1 (.ef 2 (.st 3 (.st 4 (.st 5 (.st 6 (.st 8 (.ef 7 .done)))))))), 1))], [(2, [(37, .bool)]), (13, [(69, .bool)])]⟩
theorem ir_Right_lift {t__Start1 : Int} {t__Slots2 : Int} {t__Backs3 : Int} {t__Grow4 : Int} {t__GrowBack5 : Int} {t__Ins6 : Sl} {t__Outs7 : Sl} {t__Last8 : Int} {t__Cells9 : Sl} {w : World} {K : Value → World → Prop} (h : ir_Right_sh t__Start1 t__Slots2 t__Backs3 t__Grow4 t__GrowBack5 t__Ins6 t__Outs7 t__Last8 t__Cells9 w K) : Calls Try.prog fn_ir_Right #[.agg #[.int .i64 t__Start1, .int .i64 t__Slots2, .int .i64 t__Backs3, .int .i64 t__Grow4, .int .i64 t__GrowBack5, t__Ins6.val, t__Outs7.val, .int .i64 t__Last8, t__Cells9.val]] w fun e w' => ∃ v, e = .returned v ∧ K v w' :=
   lift_calls (A := ir_Right_an) (c := bodyOf Try.f59) (args := [.agg #[.int .i64 t__Start1, .int .i64 t__Slots2, .int .i64 t__Backs3, .int .i64 t__Grow4, .int .i64 t__GrowBack5, t__Ins6.val, t__Outs7.val, .int .i64 t__Last8, t__Cells9.val]]) orc orc_wide Try.func59 (by kernel_rfl) (by kernel_rfl) (Eq.mp (by kernel_rfl : ir_Right_sh t__Start1 t__Slots2 t__Backs3 t__Grow4 t__GrowBack5 t__Ins6 t__Outs7 t__Last8 t__Cells9 w K = wpc orc Try.f59.ntmps ir_Right_an (bodyOf Try.f59) (argl 0 [.agg #[.int .i64 t__Start1, .int .i64 t__Slots2, .int .i64 t__Backs3, .int .i64 t__Grow4, .int .i64 t__GrowBack5, t__Ins6.val, t__Outs7.val, .int .i64 t__Last8, t__Cells9.val]]) w (retQ orc Try.f59.results.toList K)) h)

-- holloway/ir.head
def ir_head_sh (t__Start1 : Int) (t__Slots2 : Int) (t__Backs3 : Int) (t__Grow4 : Int) (t__GrowBack5 : Int) (t__Ins6 : Sl) (t__Outs7 : Sl) (t__Last8 : Int) (t__Cells9 : Sl) (w : World) (K : Value → World → Prop) : Prop :=
 ∀ (b10 : Nat) (w11 : World), b10 = w.heap.size → w11 = World.alloc w (.cells #[.int .i64 t__Start1, .int .i64 t__Slots2, .int .i64 t__Backs3, .int .i64 t__Grow4, .int .i64 t__GrowBack5, t__Ins6.val, t__Outs7.val, .int .i64 t__Last8, t__Cells9.val] T_api_Trace) →
 ∃ J2 : Bool → World → Prop, (∀ (numbers29 : Bool) (w28 : World), J2 numbers29 w28 →
 brB numbers29
 (∃ s30 : Sl, w28.cell? ⟨b10, 5, none⟩ = some (s30.val) ∧
 brB (decide ((s30.len : Int) ≤ (1000 : Int)))
 (∃ s31 : Sl, w28.cell? ⟨b10, 6, none⟩ = some (s31.val) ∧
 brB (decide ((s31.len : Int) ≤ (300 : Int)))
 (∃ n32 : Int, w28.cell? ⟨b10, 0, none⟩ = some (.int .i64 n32) ∧
 Calls Try.prog fn_ir_between #[.int .i64 n32, .int .i64 (0 : Int), .int .i64 (2999 : Int)] w28 fun e33 w34 => ∃ b35 : Bool, e33 = .returned (.bool b35) ∧
 K (.bool b35) w34)
 (K (.bool false) w28))
 (K (.bool false) w28))
 (K (.bool false) w28)) ∧
 ∃ n12 : Int, w11.cell? ⟨b10, 1, none⟩ = some (.int .i64 n12) ∧
 Calls Try.prog fn_ir_between #[.int .i64 n12, .int .i64 (0 : Int), .int .i64 (48 : Int)] w11 fun e13 w14 => ∃ b15 : Bool, e13 = .returned (.bool b15) ∧
 brB b15
 (∃ n16 : Int, w14.cell? ⟨b10, 3, none⟩ = some (.int .i64 n16) ∧
 Calls Try.prog fn_ir_between #[.int .i64 n16, .int .i64 (0 : Int), .int .i64 (48 : Int)] w14 fun e17 w18 => ∃ b19 : Bool, e17 = .returned (.bool b19) ∧
 brB b19
 (∃ n20 : Int, w18.cell? ⟨b10, 2, none⟩ = some (.int .i64 n20) ∧
 Calls Try.prog fn_ir_between #[.int .i64 n20, .int .i64 (0 : Int), .int .i64 (48 : Int)] w18 fun e21 w22 => ∃ b23 : Bool, e21 = .returned (.bool b23) ∧
 brB b23
 (∃ n24 : Int, w22.cell? ⟨b10, 4, none⟩ = some (.int .i64 n24) ∧
 Calls Try.prog fn_ir_between #[.int .i64 n24, .int .i64 (0 : Int), .int .i64 (48 : Int)] w22 fun e25 w26 => ∃ b27 : Bool, e25 = .returned (.bool b27) ∧
 J2 b27 w26)
 (J2 false w22))
 (J2 false w18))
 (J2 false w14)
def ir_head_an : An := ⟨[], [], [(2, [(3, .bool)])]⟩
theorem ir_head_lift {t__Start1 : Int} {t__Slots2 : Int} {t__Backs3 : Int} {t__Grow4 : Int} {t__GrowBack5 : Int} {t__Ins6 : Sl} {t__Outs7 : Sl} {t__Last8 : Int} {t__Cells9 : Sl} {w : World} {K : Value → World → Prop} (h : ir_head_sh t__Start1 t__Slots2 t__Backs3 t__Grow4 t__GrowBack5 t__Ins6 t__Outs7 t__Last8 t__Cells9 w K) : Calls Try.prog fn_ir_head #[.agg #[.int .i64 t__Start1, .int .i64 t__Slots2, .int .i64 t__Backs3, .int .i64 t__Grow4, .int .i64 t__GrowBack5, t__Ins6.val, t__Outs7.val, .int .i64 t__Last8, t__Cells9.val]] w fun e w' => ∃ v, e = .returned v ∧ K v w' :=
   lift_calls (A := ir_head_an) (c := bodyOf Try.f122) (args := [.agg #[.int .i64 t__Start1, .int .i64 t__Slots2, .int .i64 t__Backs3, .int .i64 t__Grow4, .int .i64 t__GrowBack5, t__Ins6.val, t__Outs7.val, .int .i64 t__Last8, t__Cells9.val]]) orc orc_wide Try.func122 (by kernel_rfl) (by kernel_rfl) (Eq.mp (by kernel_rfl : ir_head_sh t__Start1 t__Slots2 t__Backs3 t__Grow4 t__GrowBack5 t__Ins6 t__Outs7 t__Last8 t__Cells9 w K = wpc orc Try.f122.ntmps ir_head_an (bodyOf Try.f122) (argl 0 [.agg #[.int .i64 t__Start1, .int .i64 t__Slots2, .int .i64 t__Backs3, .int .i64 t__Grow4, .int .i64 t__GrowBack5, t__Ins6.val, t__Outs7.val, .int .i64 t__Last8, t__Cells9.val]]) w (retQ orc Try.f122.results.toList K)) h)

-- holloway/ir.cells
def ir_cells_sh (l_1 : Sl) (w : World) (K : Value → World → Prop) : Prop :=
 ∃ (I1 : Int → Int → World → Prop) (μ1 : Int → Int → World → Nat), I1 (-1 : Int) (0 : Int) w ∧ ∀ (last6 : Int) (n3 : Int) (w2 : World), I1 last6 n3 w2 →
 brB (decide (n3 < (l_1.len : Int)))
 (∃ a4 : Addr, l_1.ptr = some a4 ∧ 0 ≤ n3 ∧ n3 < (l_1.len : Int) ∧
 ∃ n5 : Int, w2.cell? (Addr.add a4 (Int.toNat n3 * 1)) = some (.int .i64 n5) ∧
 ∃ J10 : Bool → World → Prop, (∀ (b8 : Bool) (w7 : World), J10 b8 w7 →
 brB b8
 (K (.bool false) w7)
 (I1 n5 (wr (n3 + (1 : Int))) w7 ∧ μ1 n5 (wr (n3 + (1 : Int))) w7 < μ1 last6 n3 w2)) ∧
 brB (decide (n5 ≤ last6))
 (J10 true w2)
 (J10 (decide (n5 ≥ (3000 : Int))) w2))
 (K (.bool true) w2)
def ir_cells_an : An := ⟨[(3, [(3, .int .i64), (8, .int .i64)])], [], [(6, [(18, .bool)])]⟩
theorem ir_cells_lift {l_1 : Sl} {w : World} {K : Value → World → Prop} (h : ir_cells_sh l_1 w K) : Calls Try.prog fn_ir_cells #[l_1.val] w fun e w' => ∃ v, e = .returned v ∧ K v w' :=
   lift_calls (A := ir_cells_an) (c := bodyOf Try.f123) (args := [l_1.val]) orc orc_wide Try.func123 (by kernel_rfl) (by kernel_rfl) (Eq.mp (by kernel_rfl : ir_cells_sh l_1 w K = wpc orc Try.f123.ntmps ir_cells_an (bodyOf Try.f123) (argl 0 [l_1.val]) w (retQ orc Try.f123.results.toList K)) h)

-- holloway/ir.named
def ir_named_sh (t__Start1 : Int) (t__Slots2 : Int) (t__Backs3 : Int) (t__Grow4 : Int) (t__GrowBack5 : Int) (t__Ins6 : Sl) (t__Outs7 : Sl) (t__Last8 : Int) (t__Cells9 : Sl) (x_10 : Int) (at_11 : Int) (w : World) (K : Value → World → Prop) : Prop :=
 ∀ (b12 : Nat) (w13 : World), b12 = w.heap.size → w13 = World.alloc w (.cells #[.int .i64 t__Start1, .int .i64 t__Slots2, .int .i64 t__Backs3, .int .i64 t__Grow4, .int .i64 t__GrowBack5, t__Ins6.val, t__Outs7.val, .int .i64 t__Last8, t__Cells9.val] T_api_Trace) →
 ∀ w14 : World, w14 = World.drew w13 →
 ∃ S15 : World → Prop, S15 w14 ∧
 brB (decide (x_10 ≥ (0 : Int)))
 (∃ s16 : Sl, held S15 ⟨b12, 6, none⟩ (s16.val) ∧
 brB (decide (x_10 < (s16.len : Int)))
 (∃ n_Start17 : Int, ∃ n_Slots18 : Int, ∃ n_Backs19 : Int, ∃ n_Grow20 : Int, ∃ n_GrowBack21 : Int, ∃ s_Ins22 : Sl, ∃ s_Outs23 : Sl, ∃ n_Last24 : Int, ∃ s_Cells25 : Sl, held S15 ⟨b12, 0, none⟩ (.int .i64 n_Start17) ∧ held S15 ⟨b12, 1, none⟩ (.int .i64 n_Slots18) ∧ held S15 ⟨b12, 2, none⟩ (.int .i64 n_Backs19) ∧ held S15 ⟨b12, 3, none⟩ (.int .i64 n_Grow20) ∧ held S15 ⟨b12, 4, none⟩ (.int .i64 n_GrowBack21) ∧ held S15 ⟨b12, 5, none⟩ (s_Ins22.val) ∧ held S15 ⟨b12, 6, none⟩ (s_Outs23.val) ∧ held S15 ⟨b12, 7, none⟩ (.int .i64 n_Last24) ∧ held S15 ⟨b12, 8, none⟩ (s_Cells25.val) ∧
 ∃ s26 : Sl, held S15 ⟨b12, 6, none⟩ (s26.val) ∧
 ∃ a27 : Addr, s26.ptr = some a27 ∧ 0 ≤ x_10 ∧ x_10 < (s26.len : Int) ∧
 ∃ s28 : Sl, held S15 (Addr.add (Addr.add a27 (Int.toNat x_10 * 4)) 2) (s28.val) ∧
 Calls Try.prog fn_ir_places #[.agg #[.int .i64 n_Start17, .int .i64 n_Slots18, .int .i64 n_Backs19, .int .i64 n_Grow20, .int .i64 n_GrowBack21, s_Ins22.val, s_Outs23.val, .int .i64 n_Last24, s_Cells25.val], s28.val, .int .i64 at_11] w14 fun e29 w30 => ∃ b31 : Bool, e29 = .returned (.bool b31) ∧
 S15 w30 ∧
 brB b31
 (∃ n_Start32 : Int, ∃ n_Slots33 : Int, ∃ n_Backs34 : Int, ∃ n_Grow35 : Int, ∃ n_GrowBack36 : Int, ∃ s_Ins37 : Sl, ∃ s_Outs38 : Sl, ∃ n_Last39 : Int, ∃ s_Cells40 : Sl, held S15 ⟨b12, 0, none⟩ (.int .i64 n_Start32) ∧ held S15 ⟨b12, 1, none⟩ (.int .i64 n_Slots33) ∧ held S15 ⟨b12, 2, none⟩ (.int .i64 n_Backs34) ∧ held S15 ⟨b12, 3, none⟩ (.int .i64 n_Grow35) ∧ held S15 ⟨b12, 4, none⟩ (.int .i64 n_GrowBack36) ∧ held S15 ⟨b12, 5, none⟩ (s_Ins37.val) ∧ held S15 ⟨b12, 6, none⟩ (s_Outs38.val) ∧ held S15 ⟨b12, 7, none⟩ (.int .i64 n_Last39) ∧ held S15 ⟨b12, 8, none⟩ (s_Cells40.val) ∧
 ∃ s41 : Sl, held S15 ⟨b12, 6, none⟩ (s41.val) ∧
 ∃ a42 : Addr, s41.ptr = some a42 ∧ 0 ≤ x_10 ∧ x_10 < (s41.len : Int) ∧
 ∃ s43 : Sl, held S15 (Addr.add (Addr.add a42 (Int.toNat x_10 * 4)) 3) (s43.val) ∧
 Calls Try.prog fn_ir_places #[.agg #[.int .i64 n_Start32, .int .i64 n_Slots33, .int .i64 n_Backs34, .int .i64 n_Grow35, .int .i64 n_GrowBack36, s_Ins37.val, s_Outs38.val, .int .i64 n_Last39, s_Cells40.val], s43.val, .int .i64 at_11] w30 fun e44 w45 => ∃ b46 : Bool, e44 = .returned (.bool b46) ∧
 K (.bool b46) w45)
 (K (.bool false) w30))
 (K (.bool false) w14))
 (K (.bool false) w14)
def ir_named_an : An := ⟨[], [(1, (29, .st 0 (.st 1 (.st 2 (.st 3 (.st 4 (.st 5 (.st 6 (.st 7 (.st 8 (.st 9 (.st 10 (.st 11 (.st 12 (.st 13 (.st 14 (.st 15 (.st 16 (.st 17 (.ef 18 (.st 19 (.st 20 (.st 21 (.st 22 (.st 23 (.st 24 (.st 25 (.st 26 (.st 27 (.st 28 .done)))))))))))))))))))))))))))), 1))], []⟩
theorem ir_named_lift {t__Start1 : Int} {t__Slots2 : Int} {t__Backs3 : Int} {t__Grow4 : Int} {t__GrowBack5 : Int} {t__Ins6 : Sl} {t__Outs7 : Sl} {t__Last8 : Int} {t__Cells9 : Sl} {x_10 : Int} {at_11 : Int} {w : World} {K : Value → World → Prop} (h : ir_named_sh t__Start1 t__Slots2 t__Backs3 t__Grow4 t__GrowBack5 t__Ins6 t__Outs7 t__Last8 t__Cells9 x_10 at_11 w K) : Calls Try.prog fn_ir_named #[.agg #[.int .i64 t__Start1, .int .i64 t__Slots2, .int .i64 t__Backs3, .int .i64 t__Grow4, .int .i64 t__GrowBack5, t__Ins6.val, t__Outs7.val, .int .i64 t__Last8, t__Cells9.val], .int .i64 x_10, .int .i64 at_11] w fun e w' => ∃ v, e = .returned v ∧ K v w' :=
   lift_calls (A := ir_named_an) (c := bodyOf Try.f124) (args := [.agg #[.int .i64 t__Start1, .int .i64 t__Slots2, .int .i64 t__Backs3, .int .i64 t__Grow4, .int .i64 t__GrowBack5, t__Ins6.val, t__Outs7.val, .int .i64 t__Last8, t__Cells9.val], .int .i64 x_10, .int .i64 at_11]) orc orc_wide Try.func124 (by kernel_rfl) (by kernel_rfl) (Eq.mp (by kernel_rfl : ir_named_sh t__Start1 t__Slots2 t__Backs3 t__Grow4 t__GrowBack5 t__Ins6 t__Outs7 t__Last8 t__Cells9 x_10 at_11 w K = wpc orc Try.f124.ntmps ir_named_an (bodyOf Try.f124) (argl 0 [.agg #[.int .i64 t__Start1, .int .i64 t__Slots2, .int .i64 t__Backs3, .int .i64 t__Grow4, .int .i64 t__GrowBack5, t__Ins6.val, t__Outs7.val, .int .i64 t__Last8, t__Cells9.val], .int .i64 x_10, .int .i64 at_11]) w (retQ orc Try.f124.results.toList K)) h)

-- holloway/ir.out
def ir_out_sh (t__Start1 : Int) (t__Slots2 : Int) (t__Backs3 : Int) (t__Grow4 : Int) (t__GrowBack5 : Int) (t__Ins6 : Sl) (t__Outs7 : Sl) (t__Last8 : Int) (t__Cells9 : Sl) (x__Ip10 : Int) (x__Steps11 : Int) (x__Stack12 : Sl) (x__Back13 : Sl) (w : World) (K : Value → World → Prop) : Prop :=
 ∀ (b14 : Nat) (w15 : World), b14 = w.heap.size → w15 = World.alloc w (.cells #[.int .i64 t__Start1, .int .i64 t__Slots2, .int .i64 t__Backs3, .int .i64 t__Grow4, .int .i64 t__GrowBack5, t__Ins6.val, t__Outs7.val, .int .i64 t__Last8, t__Cells9.val] T_api_Trace) →
 ∀ (b16 : Nat) (w17 : World), b16 = w15.heap.size → w17 = World.alloc w15 (.cells #[.int .i64 x__Ip10, .int .i64 x__Steps11, x__Stack12.val, x__Back13.val] T_api_Out) →
 ∃ n18 : Int, w17.cell? ⟨b16, 1, none⟩ = some (.int .i64 n18) ∧
 Calls Try.prog fn_ir_between #[.int .i64 n18, .int .i64 (0 : Int), .int .i64 (120 : Int)] w17 fun e19 w20 => ∃ b21 : Bool, e19 = .returned (.bool b21) ∧
 brB b21
 (∃ n22 : Int, w20.cell? ⟨b16, 0, none⟩ = some (.int .i64 n22) ∧
 Calls Try.prog fn_ir_between #[.int .i64 n22, .int .i64 (0 : Int), .int .i64 (2999 : Int)] w20 fun e23 w24 => ∃ b25 : Bool, e23 = .returned (.bool b25) ∧
 brB b25
 (∃ s26 : Sl, w24.cell? ⟨b16, 2, none⟩ = some (s26.val) ∧
 ∃ n27 : Int, w24.cell? ⟨b14, 1, none⟩ = some (.int .i64 n27) ∧
 ∃ n28 : Int, w24.cell? ⟨b14, 3, none⟩ = some (.int .i64 n28) ∧
 brB (decide ((s26.len : Int) ≤ (wr (n27 + n28))))
 (∃ s29 : Sl, w24.cell? ⟨b16, 3, none⟩ = some (s29.val) ∧
 ∃ n30 : Int, w24.cell? ⟨b14, 2, none⟩ = some (.int .i64 n30) ∧
 ∃ n31 : Int, w24.cell? ⟨b14, 4, none⟩ = some (.int .i64 n31) ∧
 K (.bool (decide ((s29.len : Int) ≤ (wr (n30 + n31))))) w24)
 (K (.bool false) w24))
 (K (.bool false) w24))
 (K (.bool false) w20)
def ir_out_an : An := ⟨[], [], []⟩
theorem ir_out_lift {t__Start1 : Int} {t__Slots2 : Int} {t__Backs3 : Int} {t__Grow4 : Int} {t__GrowBack5 : Int} {t__Ins6 : Sl} {t__Outs7 : Sl} {t__Last8 : Int} {t__Cells9 : Sl} {x__Ip10 : Int} {x__Steps11 : Int} {x__Stack12 : Sl} {x__Back13 : Sl} {w : World} {K : Value → World → Prop} (h : ir_out_sh t__Start1 t__Slots2 t__Backs3 t__Grow4 t__GrowBack5 t__Ins6 t__Outs7 t__Last8 t__Cells9 x__Ip10 x__Steps11 x__Stack12 x__Back13 w K) : Calls Try.prog fn_ir_out #[.agg #[.int .i64 t__Start1, .int .i64 t__Slots2, .int .i64 t__Backs3, .int .i64 t__Grow4, .int .i64 t__GrowBack5, t__Ins6.val, t__Outs7.val, .int .i64 t__Last8, t__Cells9.val], .agg #[.int .i64 x__Ip10, .int .i64 x__Steps11, x__Stack12.val, x__Back13.val]] w fun e w' => ∃ v, e = .returned v ∧ K v w' :=
   lift_calls (A := ir_out_an) (c := bodyOf Try.f125) (args := [.agg #[.int .i64 t__Start1, .int .i64 t__Slots2, .int .i64 t__Backs3, .int .i64 t__Grow4, .int .i64 t__GrowBack5, t__Ins6.val, t__Outs7.val, .int .i64 t__Last8, t__Cells9.val], .agg #[.int .i64 x__Ip10, .int .i64 x__Steps11, x__Stack12.val, x__Back13.val]]) orc orc_wide Try.func125 (by kernel_rfl) (by kernel_rfl) (Eq.mp (by kernel_rfl : ir_out_sh t__Start1 t__Slots2 t__Backs3 t__Grow4 t__GrowBack5 t__Ins6 t__Outs7 t__Last8 t__Cells9 x__Ip10 x__Steps11 x__Stack12 x__Back13 w K = wpc orc Try.f125.ntmps ir_out_an (bodyOf Try.f125) (argl 0 [.agg #[.int .i64 t__Start1, .int .i64 t__Slots2, .int .i64 t__Backs3, .int .i64 t__Grow4, .int .i64 t__GrowBack5, t__Ins6.val, t__Outs7.val, .int .i64 t__Last8, t__Cells9.val], .agg #[.int .i64 x__Ip10, .int .i64 x__Steps11, x__Stack12.val, x__Back13.val]]) w (retQ orc Try.f125.results.toList K)) h)

-- holloway/ir.single
def ir_single_sh (t__Start1 : Int) (t__Slots2 : Int) (t__Backs3 : Int) (t__Grow4 : Int) (t__GrowBack5 : Int) (t__Ins6 : Sl) (t__Outs7 : Sl) (t__Last8 : Int) (t__Cells9 : Sl) (i__Op10 : Int) (i__A11 : Int) (i__B12 : Int) (i__C13 : Int) (i__X14 : Int) (w : World) (K : Value → World → Prop) : Prop :=
 ∀ (b15 : Nat) (w16 : World), b15 = w.heap.size → w16 = World.alloc w (.cells #[.int .i64 t__Start1, .int .i64 t__Slots2, .int .i64 t__Backs3, .int .i64 t__Grow4, .int .i64 t__GrowBack5, t__Ins6.val, t__Outs7.val, .int .i64 t__Last8, t__Cells9.val] T_api_Trace) →
 ∀ (b17 : Nat) (w18 : World), b17 = w16.heap.size → w18 = World.alloc w16 (.cells #[.int .i64 i__Op10, .int .i64 i__A11, .int .i64 i__B12, .int .i64 i__C13, .int .i64 i__X14] T_api_Ins) →
 ∃ n19 : Int, w18.cell? ⟨b17, 0, none⟩ = some (.int .i64 n19) ∧
 brB (n19 == (4 : Int))
 (∃ n20 : Int, w18.cell? ⟨b17, 1, none⟩ = some (.int .i64 n20) ∧
 Calls Try.prog fn_ir_two #[.int .i64 n20] w18 fun e21 w22 => ∃ b23 : Bool, e21 = .returned (.bool b23) ∧
 brB b23
 (K (.bool true) w22)
 (∃ n24 : Int, w22.cell? ⟨b17, 1, none⟩ = some (.int .i64 n24) ∧
 Calls Try.prog fn_ir_one #[.int .i64 n24] w22 fun e25 w26 => ∃ b27 : Bool, e25 = .returned (.bool b27) ∧
 K (.bool b27) w26))
 (brB (n19 == (2 : Int))
 (∃ n30 : Int, w18.cell? ⟨b17, 1, none⟩ = some (.int .i64 n30) ∧
 ∃ n31 : Int, w18.cell? ⟨b15, 1, none⟩ = some (.int .i64 n31) ∧
 Calls Try.prog fn_ir_between #[.int .i64 n30, .int .i64 (0 : Int), .int .i64 (wr (n31 - (1 : Int)))] w18 fun e32 w33 => ∃ b34 : Bool, e32 = .returned (.bool b34) ∧
 K (.bool b34) w33)
 (brB (n19 == (3 : Int))
 (∃ n35 : Int, w18.cell? ⟨b17, 1, none⟩ = some (.int .i64 n35) ∧
 ∃ n36 : Int, w18.cell? ⟨b15, 2, none⟩ = some (.int .i64 n36) ∧
 Calls Try.prog fn_ir_between #[.int .i64 n35, .int .i64 (0 : Int), .int .i64 (wr (n36 - (1 : Int)))] w18 fun e37 w38 => ∃ b39 : Bool, e37 = .returned (.bool b39) ∧
 K (.bool b39) w38)
 (∃ n40 : Int, w18.cell? ⟨b17, 0, none⟩ = some (.int .i64 n40) ∧
 Calls Try.prog fn_ir_between #[.int .i64 n40, .int .i64 (1 : Int), .int .i64 (12 : Int)] w18 fun e41 w42 => ∃ b43 : Bool, e41 = .returned (.bool b43) ∧
 K (.bool b43) w42)))
def ir_single_an : An := ⟨[], [], []⟩
theorem ir_single_lift {t__Start1 : Int} {t__Slots2 : Int} {t__Backs3 : Int} {t__Grow4 : Int} {t__GrowBack5 : Int} {t__Ins6 : Sl} {t__Outs7 : Sl} {t__Last8 : Int} {t__Cells9 : Sl} {i__Op10 : Int} {i__A11 : Int} {i__B12 : Int} {i__C13 : Int} {i__X14 : Int} {w : World} {K : Value → World → Prop} (h : ir_single_sh t__Start1 t__Slots2 t__Backs3 t__Grow4 t__GrowBack5 t__Ins6 t__Outs7 t__Last8 t__Cells9 i__Op10 i__A11 i__B12 i__C13 i__X14 w K) : Calls Try.prog fn_ir_single #[.agg #[.int .i64 t__Start1, .int .i64 t__Slots2, .int .i64 t__Backs3, .int .i64 t__Grow4, .int .i64 t__GrowBack5, t__Ins6.val, t__Outs7.val, .int .i64 t__Last8, t__Cells9.val], .agg #[.int .i64 i__Op10, .int .i64 i__A11, .int .i64 i__B12, .int .i64 i__C13, .int .i64 i__X14]] w fun e w' => ∃ v, e = .returned v ∧ K v w' :=
   lift_calls (A := ir_single_an) (c := bodyOf Try.f126) (args := [.agg #[.int .i64 t__Start1, .int .i64 t__Slots2, .int .i64 t__Backs3, .int .i64 t__Grow4, .int .i64 t__GrowBack5, t__Ins6.val, t__Outs7.val, .int .i64 t__Last8, t__Cells9.val], .agg #[.int .i64 i__Op10, .int .i64 i__A11, .int .i64 i__B12, .int .i64 i__C13, .int .i64 i__X14]]) orc orc_wide Try.func126 (by kernel_rfl) (by kernel_rfl) (Eq.mp (by kernel_rfl : ir_single_sh t__Start1 t__Slots2 t__Backs3 t__Grow4 t__GrowBack5 t__Ins6 t__Outs7 t__Last8 t__Cells9 i__Op10 i__A11 i__B12 i__C13 i__X14 w K = wpc orc Try.f126.ntmps ir_single_an (bodyOf Try.f126) (argl 0 [.agg #[.int .i64 t__Start1, .int .i64 t__Slots2, .int .i64 t__Backs3, .int .i64 t__Grow4, .int .i64 t__GrowBack5, t__Ins6.val, t__Outs7.val, .int .i64 t__Last8, t__Cells9.val], .agg #[.int .i64 i__Op10, .int .i64 i__A11, .int .i64 i__B12, .int .i64 i__C13, .int .i64 i__X14]]) w (retQ orc Try.f126.results.toList K)) h)

-- holloway/ir.places
def ir_places_sh (t__Start1 : Int) (t__Slots2 : Int) (t__Backs3 : Int) (t__Grow4 : Int) (t__GrowBack5 : Int) (t__Ins6 : Sl) (t__Outs7 : Sl) (t__Last8 : Int) (t__Cells9 : Sl) (l_10 : Sl) (at_11 : Int) (w : World) (K : Value → World → Prop) : Prop :=
 ∀ (b12 : Nat) (w13 : World), b12 = w.heap.size → w13 = World.alloc w (.cells #[.int .i64 t__Start1, .int .i64 t__Slots2, .int .i64 t__Backs3, .int .i64 t__Grow4, .int .i64 t__GrowBack5, t__Ins6.val, t__Outs7.val, .int .i64 t__Last8, t__Cells9.val] T_api_Trace) →
 ∃ (I1 : Int → World → Prop) (μ1 : Int → World → Nat), I1 (0 : Int) w13 ∧ ∀ (n15 : Int) (w14 : World), I1 n15 w14 →
 brB (decide (n15 < (l_10.len : Int)))
 (∃ a16 : Addr, l_10.ptr = some a16 ∧ 0 ≤ n15 ∧ n15 < (l_10.len : Int) ∧
 ∃ n17 : Int, w14.cell? (Addr.add a16 (Int.toNat n15 * 1)) = some (.int .i64 n17) ∧
 ∃ J8 : Bool → World → Prop, (∀ (b25 : Bool) (w24 : World), J8 b25 w24 →
 brB b25
 (K (.bool false) w24)
 (I1 (wr (n15 + (1 : Int))) w24 ∧ μ1 (wr (n15 + (1 : Int))) w24 < μ1 n15 w14)) ∧
 brB (decide (n17 < (0 : Int)))
 (J8 true w14)
 (brB (decide (n17 ≥ at_11))
 (J8 true w14)
 (∃ s18 : Sl, w14.cell? ⟨b12, 5, none⟩ = some (s18.val) ∧
 ∃ a19 : Addr, s18.ptr = some a19 ∧ 0 ≤ n17 ∧ n17 < (s18.len : Int) ∧
 ∃ n20 : Int, w14.cell? (Addr.add a19 (Int.toNat n17 * 5)) = some (.int .i64 n20) ∧
 Calls Try.prog fn_ir_Gives #[.int .i64 n20] w14 fun e21 w22 => ∃ b23 : Bool, e21 = .returned (.bool b23) ∧
 J8 (!b23) w22)))
 (K (.bool true) w14)
def ir_places_an : An := ⟨[(2, [(11, .int .i64)])], [], [(5, [(31, .bool)])]⟩
theorem ir_places_lift {t__Start1 : Int} {t__Slots2 : Int} {t__Backs3 : Int} {t__Grow4 : Int} {t__GrowBack5 : Int} {t__Ins6 : Sl} {t__Outs7 : Sl} {t__Last8 : Int} {t__Cells9 : Sl} {l_10 : Sl} {at_11 : Int} {w : World} {K : Value → World → Prop} (h : ir_places_sh t__Start1 t__Slots2 t__Backs3 t__Grow4 t__GrowBack5 t__Ins6 t__Outs7 t__Last8 t__Cells9 l_10 at_11 w K) : Calls Try.prog fn_ir_places #[.agg #[.int .i64 t__Start1, .int .i64 t__Slots2, .int .i64 t__Backs3, .int .i64 t__Grow4, .int .i64 t__GrowBack5, t__Ins6.val, t__Outs7.val, .int .i64 t__Last8, t__Cells9.val], l_10.val, .int .i64 at_11] w fun e w' => ∃ v, e = .returned v ∧ K v w' :=
   lift_calls (A := ir_places_an) (c := bodyOf Try.f127) (args := [.agg #[.int .i64 t__Start1, .int .i64 t__Slots2, .int .i64 t__Backs3, .int .i64 t__Grow4, .int .i64 t__GrowBack5, t__Ins6.val, t__Outs7.val, .int .i64 t__Last8, t__Cells9.val], l_10.val, .int .i64 at_11]) orc orc_wide Try.func127 (by kernel_rfl) (by kernel_rfl) (Eq.mp (by kernel_rfl : ir_places_sh t__Start1 t__Slots2 t__Backs3 t__Grow4 t__GrowBack5 t__Ins6 t__Outs7 t__Last8 t__Cells9 l_10 at_11 w K = wpc orc Try.f127.ntmps ir_places_an (bodyOf Try.f127) (argl 0 [.agg #[.int .i64 t__Start1, .int .i64 t__Slots2, .int .i64 t__Backs3, .int .i64 t__Grow4, .int .i64 t__GrowBack5, t__Ins6.val, t__Outs7.val, .int .i64 t__Last8, t__Cells9.val], l_10.val, .int .i64 at_11]) w (retQ orc Try.f127.results.toList K)) h)

-- holloway/ir.Uses
def ir_Uses_j1 (J4 : World → Prop) (n8 : Int) (b16 : Bool) (w15 : World) (K : Value → World → Prop) : Prop :=
 brB b16
 (J4  w15)
 (brB (n8 == (10 : Int))
 ((brB (n8 == (10 : Int))
 (J4  w15)
 (K (.slice none 0 0) w15)))
 ((brB (n8 == (11 : Int))
 (J4  w15)
 (K (.slice none 0 0) w15))))
def ir_Uses_sh (i__Op1 : Int) (i__A2 : Int) (i__B3 : Int) (i__C4 : Int) (i__X5 : Int) (w : World) (K : Value → World → Prop) : Prop :=
 ∀ (b6 : Nat) (w7 : World), b6 = w.heap.size → w7 = World.alloc w (.cells #[.int .i64 i__Op1, .int .i64 i__A2, .int .i64 i__B3, .int .i64 i__C4, .int .i64 i__X5] T_api_Ins) →
 ∃ n8 : Int, w7.cell? ⟨b6, 0, none⟩ = some (.int .i64 n8) ∧
 ∃ J4 : World → Prop, (∀ (w33 : World), J4  w33 →
 ∃ n34 : Int, w33.cell? ⟨b6, 2, none⟩ = some (.int .i64 n34) ∧
 ∀ (b35 : Nat) (w36 : World), b35 = w33.heap.size → w36 = World.alloc w33 (.cells #[.int .i64 n34] T_int) →
 K (.slice (some ⟨b35, 0, none⟩) 1 1) w36) ∧
 ∃ J5 : World → Prop, (∀ (w28 : World), J5  w28 →
 ∃ n29 : Int, w28.cell? ⟨b6, 2, none⟩ = some (.int .i64 n29) ∧
 ∃ n30 : Int, w28.cell? ⟨b6, 3, none⟩ = some (.int .i64 n30) ∧
 ∀ (b31 : Nat) (w32 : World), b31 = w28.heap.size → w32 = World.alloc w28 (.cells #[.int .i64 n29, .int .i64 n30] T_int) →
 K (.slice (some ⟨b31, 0, none⟩) 2 2) w32) ∧
 brB (n8 == (4 : Int))
 (∃ n21 : Int, w7.cell? ⟨b6, 1, none⟩ = some (.int .i64 n21) ∧
 Calls Try.prog fn_ir_two #[.int .i64 n21] w7 fun e22 w23 => ∃ b24 : Bool, e22 = .returned (.bool b24) ∧
 brB (!b24)
 (∃ n25 : Int, w23.cell? ⟨b6, 2, none⟩ = some (.int .i64 n25) ∧
 ∀ (b26 : Nat) (w27 : World), b26 = w23.heap.size → w27 = World.alloc w23 (.cells #[.int .i64 n25] T_int) →
 K (.slice (some ⟨b26, 0, none⟩) 1 1) w27)
 (J5  w23))
 (brB (n8 == (6 : Int))
 ((brB (n8 == (6 : Int))
 (J5  w7)
 (brB (n8 == (5 : Int))
 (ir_Uses_j1 J4 n8 (n8 == (5 : Int)) w7 K)
 (brB (n8 == (7 : Int))
 (ir_Uses_j1 J4 n8 (n8 == (7 : Int)) w7 K)
 (ir_Uses_j1 J4 n8 (n8 == (8 : Int)) w7 K)))))
 ((brB (n8 == (9 : Int))
 (J5  w7)
 (brB (n8 == (5 : Int))
 (ir_Uses_j1 J4 n8 (n8 == (5 : Int)) w7 K)
 (brB (n8 == (7 : Int))
 (ir_Uses_j1 J4 n8 (n8 == (7 : Int)) w7 K)
 (ir_Uses_j1 J4 n8 (n8 == (8 : Int)) w7 K))))))
def ir_Uses_an : An := ⟨[], [], [(12, []), (13, [])]⟩
theorem ir_Uses_lift {i__Op1 : Int} {i__A2 : Int} {i__B3 : Int} {i__C4 : Int} {i__X5 : Int} {w : World} {K : Value → World → Prop} (h : ir_Uses_sh i__Op1 i__A2 i__B3 i__C4 i__X5 w K) : Calls Try.prog fn_ir_Uses #[.agg #[.int .i64 i__Op1, .int .i64 i__A2, .int .i64 i__B3, .int .i64 i__C4, .int .i64 i__X5]] w fun e w' => ∃ v, e = .returned v ∧ K v w' :=
   lift_calls (A := ir_Uses_an) (c := bodyOf Try.f128) (args := [.agg #[.int .i64 i__Op1, .int .i64 i__A2, .int .i64 i__B3, .int .i64 i__C4, .int .i64 i__X5]]) orc orc_wide Try.func128 (by kernel_rfl) (by kernel_rfl) (Eq.mp (by kernel_rfl : ir_Uses_sh i__Op1 i__A2 i__B3 i__C4 i__X5 w K = wpc orc Try.f128.ntmps ir_Uses_an (bodyOf Try.f128) (argl 0 [.agg #[.int .i64 i__Op1, .int .i64 i__A2, .int .i64 i__B3, .int .i64 i__C4, .int .i64 i__X5]]) w (retQ orc Try.f128.results.toList K)) h)

-- holloway/ir.Outs
def ir_Outs_j1 (J5 : World → Prop) (n8 : Int) (b6 : Nat) (b16 : Bool) (w15 : World) (K : Value → World → Prop) : Prop :=
 brB b16
 (J5  w15)
 (brB (n8 == (6 : Int))
 (∃ n25 : Int, w15.cell? ⟨b6, 4, none⟩ = some (.int .i64 n25) ∧
 ∃ n26 : Int, w15.cell? ⟨b6, 1, none⟩ = some (.int .i64 n26) ∧
 ∀ (b27 : Nat) (w28 : World), b27 = w15.heap.size → w28 = World.alloc w15 (.cells #[.int .i64 n25, .int .i64 n26] T_int) →
 K (.slice (some ⟨b27, 0, none⟩) 2 2) w28)
 (K (.slice none 0 0) w15))
def ir_Outs_sh (i__Op1 : Int) (i__A2 : Int) (i__B3 : Int) (i__C4 : Int) (i__X5 : Int) (w : World) (K : Value → World → Prop) : Prop :=
 ∀ (b6 : Nat) (w7 : World), b6 = w.heap.size → w7 = World.alloc w (.cells #[.int .i64 i__Op1, .int .i64 i__A2, .int .i64 i__B3, .int .i64 i__C4, .int .i64 i__X5] T_api_Ins) →
 ∃ n8 : Int, w7.cell? ⟨b6, 0, none⟩ = some (.int .i64 n8) ∧
 ∃ J5 : World → Prop, (∀ (w21 : World), J5  w21 →
 ∃ n22 : Int, w21.cell? ⟨b6, 4, none⟩ = some (.int .i64 n22) ∧
 ∀ (b23 : Nat) (w24 : World), b23 = w21.heap.size → w24 = World.alloc w21 (.cells #[.int .i64 n22] T_int) →
 K (.slice (some ⟨b23, 0, none⟩) 1 1) w24) ∧
 brB (n8 == (4 : Int))
 (∃ J19 : Bool → World → Prop, (∀ (b20 : Bool) (w19 : World), J19 b20 w19 →
 brB b20
 (K (.slice none 0 0) w19)
 (J5  w19)) ∧
 ∃ n17 : Int, w7.cell? ⟨b6, 1, none⟩ = some (.int .i64 n17) ∧
 brB (n17 != (14 : Int))
 (∃ n18 : Int, w7.cell? ⟨b6, 1, none⟩ = some (.int .i64 n18) ∧
 J19 (n18 != (15 : Int)) w7)
 (J19 false w7))
 (brB (n8 == (5 : Int))
 ((brB (n8 == (5 : Int))
 (J5  w7)
 (brB (n8 == (10 : Int))
 (ir_Outs_j1 J5 n8 b6 (n8 == (10 : Int)) w7 K)
 (ir_Outs_j1 J5 n8 b6 (n8 == (11 : Int)) w7 K))))
 (brB (n8 == (7 : Int))
 ((brB (n8 == (7 : Int))
 (J5  w7)
 (brB (n8 == (10 : Int))
 (ir_Outs_j1 J5 n8 b6 (n8 == (10 : Int)) w7 K)
 (ir_Outs_j1 J5 n8 b6 (n8 == (11 : Int)) w7 K))))
 (brB (n8 == (8 : Int))
 ((brB (n8 == (8 : Int))
 (J5  w7)
 (brB (n8 == (10 : Int))
 (ir_Outs_j1 J5 n8 b6 (n8 == (10 : Int)) w7 K)
 (ir_Outs_j1 J5 n8 b6 (n8 == (11 : Int)) w7 K))))
 ((brB (n8 == (9 : Int))
 (J5  w7)
 (brB (n8 == (10 : Int))
 (ir_Outs_j1 J5 n8 b6 (n8 == (10 : Int)) w7 K)
 (ir_Outs_j1 J5 n8 b6 (n8 == (11 : Int)) w7 K)))))))
def ir_Outs_an : An := ⟨[], [], [(11, [(24, .bool)]), (12, [])]⟩
theorem ir_Outs_lift {i__Op1 : Int} {i__A2 : Int} {i__B3 : Int} {i__C4 : Int} {i__X5 : Int} {w : World} {K : Value → World → Prop} (h : ir_Outs_sh i__Op1 i__A2 i__B3 i__C4 i__X5 w K) : Calls Try.prog fn_ir_Outs #[.agg #[.int .i64 i__Op1, .int .i64 i__A2, .int .i64 i__B3, .int .i64 i__C4, .int .i64 i__X5]] w fun e w' => ∃ v, e = .returned v ∧ K v w' :=
   lift_calls (A := ir_Outs_an) (c := bodyOf Try.f129) (args := [.agg #[.int .i64 i__Op1, .int .i64 i__A2, .int .i64 i__B3, .int .i64 i__C4, .int .i64 i__X5]]) orc orc_wide Try.func129 (by kernel_rfl) (by kernel_rfl) (Eq.mp (by kernel_rfl : ir_Outs_sh i__Op1 i__A2 i__B3 i__C4 i__X5 w K = wpc orc Try.f129.ntmps ir_Outs_an (bodyOf Try.f129) (argl 0 [.agg #[.int .i64 i__Op1, .int .i64 i__A2, .int .i64 i__B3, .int .i64 i__C4, .int .i64 i__X5]]) w (retQ orc Try.f129.results.toList K)) h)

-- holloway/ir.Gives
def ir_Gives_j1 (op1 : Int) (b5 : Bool) (w4 : World) (K : Value → World → Prop) : Prop :=
 brB b5
 (K (.bool true) w4)
 (brB (op1 == (4 : Int))
 ((brB (op1 == (4 : Int))
 (K (.bool true) w4)
 (brB (op1 == (12 : Int))
 (K (.bool true) w4)
 (K (.bool false) w4))))
 ((brB (op1 == (5 : Int))
 (K (.bool true) w4)
 (brB (op1 == (12 : Int))
 (K (.bool true) w4)
 (K (.bool false) w4)))))
def ir_Gives_sh (op1 : Int) (w : World) (K : Value → World → Prop) : Prop :=
 brB (op1 == (1 : Int))
 (ir_Gives_j1 op1 (op1 == (1 : Int)) w K)
 (brB (op1 == (2 : Int))
 (ir_Gives_j1 op1 (op1 == (2 : Int)) w K)
 (ir_Gives_j1 op1 (op1 == (3 : Int)) w K))
def ir_Gives_an : An := ⟨[], [], []⟩
theorem ir_Gives_lift {op1 : Int} {w : World} {K : Value → World → Prop} (h : ir_Gives_sh op1 w K) : Calls Try.prog fn_ir_Gives #[.int .i64 op1] w fun e w' => ∃ v, e = .returned v ∧ K v w' :=
   lift_calls (A := ir_Gives_an) (c := bodyOf Try.f151) (args := [.int .i64 op1]) orc orc_wide Try.func151 (by kernel_rfl) (by kernel_rfl) (Eq.mp (by kernel_rfl : ir_Gives_sh op1 w K = wpc orc Try.f151.ntmps ir_Gives_an (bodyOf Try.f151) (argl 0 [.int .i64 op1]) w (retQ orc Try.f151.results.toList K)) h)

-- holloway/ir.between
def ir_between_sh (n_1 : Int) (least2 : Int) (most3 : Int) (w : World) (K : Value → World → Prop) : Prop :=
 brB (decide (n_1 ≥ least2))
 (K (.bool (decide (n_1 ≤ most3))) w)
 (K (.bool false) w)
def ir_between_an : An := ⟨[], [], []⟩
theorem ir_between_lift {n_1 : Int} {least2 : Int} {most3 : Int} {w : World} {K : Value → World → Prop} (h : ir_between_sh n_1 least2 most3 w K) : Calls Try.prog fn_ir_between #[.int .i64 n_1, .int .i64 least2, .int .i64 most3] w fun e w' => ∃ v, e = .returned v ∧ K v w' :=
   lift_calls (A := ir_between_an) (c := bodyOf Try.f162) (args := [.int .i64 n_1, .int .i64 least2, .int .i64 most3]) orc orc_wide Try.func162 (by kernel_rfl) (by kernel_rfl) (Eq.mp (by kernel_rfl : ir_between_sh n_1 least2 most3 w K = wpc orc Try.f162.ntmps ir_between_an (bodyOf Try.f162) (argl 0 [.int .i64 n_1, .int .i64 least2, .int .i64 most3]) w (retQ orc Try.f162.results.toList K)) h)

-- holloway/ir.two
def ir_two_sh (op1 : Int) (w : World) (K : Value → World → Prop) : Prop :=
 Calls Try.prog fn_cell_Two #[.int .i64 op1, .int .i64 (1 : Int), .int .i64 (1 : Int)] w fun e2 w3 => ∃ n4 : Int, ∃ b5 : Bool, e2 = .returned (.tuple #[.int .i64 n4, .bool b5]) ∧
 K (.bool b5) w3
def ir_two_an : An := ⟨[], [], []⟩
theorem ir_two_lift {op1 : Int} {w : World} {K : Value → World → Prop} (h : ir_two_sh op1 w K) : Calls Try.prog fn_ir_two #[.int .i64 op1] w fun e w' => ∃ v, e = .returned v ∧ K v w' :=
   lift_calls (A := ir_two_an) (c := bodyOf Try.f163) (args := [.int .i64 op1]) orc orc_wide Try.func163 (by kernel_rfl) (by kernel_rfl) (Eq.mp (by kernel_rfl : ir_two_sh op1 w K = wpc orc Try.f163.ntmps ir_two_an (bodyOf Try.f163) (argl 0 [.int .i64 op1]) w (retQ orc Try.f163.results.toList K)) h)

-- holloway/ir.one
def ir_one_sh (op1 : Int) (w : World) (K : Value → World → Prop) : Prop :=
 Calls Try.prog fn_cell_One #[.int .i64 op1, .int .i64 (1 : Int)] w fun e2 w3 => ∃ n4 : Int, ∃ b5 : Bool, e2 = .returned (.tuple #[.int .i64 n4, .bool b5]) ∧
 K (.bool b5) w3
def ir_one_an : An := ⟨[], [], []⟩
theorem ir_one_lift {op1 : Int} {w : World} {K : Value → World → Prop} (h : ir_one_sh op1 w K) : Calls Try.prog fn_ir_one #[.int .i64 op1] w fun e w' => ∃ v, e = .returned v ∧ K v w' :=
   lift_calls (A := ir_one_an) (c := bodyOf Try.f164) (args := [.int .i64 op1]) orc orc_wide Try.func164 (by kernel_rfl) (by kernel_rfl) (Eq.mp (by kernel_rfl : ir_one_sh op1 w K = wpc orc Try.f164.ntmps ir_one_an (bodyOf Try.f164) (argl 0 [.int .i64 op1]) w (retQ orc Try.f164.results.toList K)) h)

end Go.Proofs.Ytblmoilneiffgaa

/- Functions of Fold, read without their frames; that each is enough. Printed by a program of mine (wip/lift/gen.py). -/
set_option maxRecDepth 100000
namespace Go.Proofs.Ytblmoilneiffgaa
open Go.RowKit

-- holloway/fold.Do
-- holloway/fold.Left
-- (holloway/fold.Map).Ins
-- holloway/fold.holds
-- holloway/fold.reckoned
-- (holloway/fold.Map).Outs
-- (holloway/fold.Map).Of
-- holloway/fold.numbers
-- (holloway/fold.Map).All
end Go.Proofs.Ytblmoilneiffgaa
