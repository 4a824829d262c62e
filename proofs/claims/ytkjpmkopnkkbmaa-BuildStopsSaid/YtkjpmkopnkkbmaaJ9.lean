/- The lifted texts of the packages eval and hollowayref15. -/
import Derived.Test.YtkjpmkopnkkbmaaJ4

/- Functions of Hollowayref15, read without their frames; that each is enough. Printed by a program of mine (wip/lift/gen.py). -/
set_option maxRecDepth 100000
namespace Go.Proofs.Ytkjpmkopnkkbmaa
open Go.RowKit

-- holloway/hollowayref15.Right
def hollowayref15_Right_sh (t__Start1 : Int) (t__Slots2 : Int) (t__Backs3 : Int) (t__Grow4 : Int) (t__GrowBack5 : Int) (t__Ins6 : Sl) (t__Outs7 : Sl) (t__Last8 : Int) (t__Cells9 : Sl) (w : World) (K : Value → World → Prop) : Prop :=
 ∀ (b10 : Nat) (w11 : World), b10 = w.heap.size → w11 = World.alloc w (.cells #[.int .i64 t__Start1, .int .i64 t__Slots2, .int .i64 t__Backs3, .int .i64 t__Grow4, .int .i64 t__GrowBack5, t__Ins6.val, t__Outs7.val, .int .i64 t__Last8, t__Cells9.val] T_api_Trace) →
 ∃ J3 : Bool → World → Prop, (∀ (b35 : Bool) (w34 : World), J3 b35 w34 →
 brB b35
 (K (.bool false) w34)
 (∃ (I1 : Int → World → Prop) (μ1 : Int → World → Nat), I1 (0 : Int) w34 ∧ ∀ (k37 : Int) (w36 : World), I1 k37 w36 →
 ∃ s38 : Sl, w36.cell? ⟨b10, 5, none⟩ = some (s38.val) ∧
 brB (decide (k37 < (s38.len : Int)))
 (∃ s39 : Sl, w36.cell? ⟨b10, 5, none⟩ = some (s39.val) ∧
 ∃ a40 : Addr, s39.ptr = some a40 ∧ 0 ≤ k37 ∧ k37 < (s39.len : Int) ∧
 ∃ n_Op41 : Int, ∃ n_A42 : Int, ∃ n_B43 : Int, ∃ n_C44 : Int, ∃ n_X45 : Int, w36.cell? (Addr.add a40 (Int.toNat k37 * 5)) = some (.int .i64 n_Op41) ∧ w36.cell? (Addr.add (Addr.add a40 (Int.toNat k37 * 5)) 1) = some (.int .i64 n_A42) ∧ w36.cell? (Addr.add (Addr.add a40 (Int.toNat k37 * 5)) 2) = some (.int .i64 n_B43) ∧ w36.cell? (Addr.add (Addr.add a40 (Int.toNat k37 * 5)) 3) = some (.int .i64 n_C44) ∧ w36.cell? (Addr.add (Addr.add a40 (Int.toNat k37 * 5)) 4) = some (.int .i64 n_X45) ∧
 ∀ (b46 : Nat) (w47 : World), b46 = w36.heap.size → w47 = World.alloc w36 (.cells #[.int .i64 (0 : Int), .int .i64 (0 : Int), .int .i64 (0 : Int), .int .i64 (0 : Int), .int .i64 (0 : Int)] T_api_Ins) →
 wrOk w47 ⟨b46, 0, none⟩ 5 ∧ ∀ w48 : World, w48 = stW w47 ⟨b46, 0, none⟩ 0 [.int .i64 n_Op41, .int .i64 n_A42, .int .i64 n_B43, .int .i64 n_C44, .int .i64 n_X45] →
 ∃ J12 : Bool → World → Prop, (∀ (b357 : Bool) (w356 : World), J12 b357 w356 →
 brB b357
 (K (.bool false) w356)
 (∃ n_Op358 : Int, ∃ n_A359 : Int, ∃ n_B360 : Int, ∃ n_C361 : Int, ∃ n_X362 : Int, w356.cell? ⟨b46, 0, none⟩ = some (.int .i64 n_Op358) ∧ w356.cell? ⟨b46, 1, none⟩ = some (.int .i64 n_A359) ∧ w356.cell? ⟨b46, 2, none⟩ = some (.int .i64 n_B360) ∧ w356.cell? ⟨b46, 3, none⟩ = some (.int .i64 n_C361) ∧ w356.cell? ⟨b46, 4, none⟩ = some (.int .i64 n_X362) ∧
 Calls Try.prog fn_hollowayref15_Outs #[.agg #[.int .i64 n_Op358, .int .i64 n_A359, .int .i64 n_B360, .int .i64 n_C361, .int .i64 n_X362]] w356 fun e363 w364 => ∃ s365 : Sl, e363 = .returned (s365.val) ∧
 ∃ (I2 : Int → World → Prop) (μ2 : Int → World → Nat), I2 (0 : Int) w364 ∧ ∀ (j367 : Int) (w366 : World), I2 j367 w366 →
 brB (decide (j367 < (s365.len : Int)))
 (∀ w368 : World, w368 = World.drew w366 →
 ∃ n_Start369 : Int, ∃ n_Slots370 : Int, ∃ n_Backs371 : Int, ∃ n_Grow372 : Int, ∃ n_GrowBack373 : Int, ∃ s_Ins374 : Sl, ∃ s_Outs375 : Sl, ∃ n_Last376 : Int, ∃ s_Cells377 : Sl, held (Lw w368) ⟨b10, 0, none⟩ (.int .i64 n_Start369) ∧ held (Lw w368) ⟨b10, 1, none⟩ (.int .i64 n_Slots370) ∧ held (Lw w368) ⟨b10, 2, none⟩ (.int .i64 n_Backs371) ∧ held (Lw w368) ⟨b10, 3, none⟩ (.int .i64 n_Grow372) ∧ held (Lw w368) ⟨b10, 4, none⟩ (.int .i64 n_GrowBack373) ∧ held (Lw w368) ⟨b10, 5, none⟩ (s_Ins374.val) ∧ held (Lw w368) ⟨b10, 6, none⟩ (s_Outs375.val) ∧ held (Lw w368) ⟨b10, 7, none⟩ (.int .i64 n_Last376) ∧ held (Lw w368) ⟨b10, 8, none⟩ (s_Cells377.val) ∧
 ∃ a378 : Addr, s365.ptr = some a378 ∧ 0 ≤ j367 ∧ j367 < (s365.len : Int) ∧
 ∃ n379 : Int, held (Lw w368) (Addr.add a378 (Int.toNat j367 * 1)) (.int .i64 n379) ∧
 Calls Try.prog fn_hollowayref15_out #[.agg #[.int .i64 n_Start369, .int .i64 n_Slots370, .int .i64 n_Backs371, .int .i64 n_Grow372, .int .i64 n_GrowBack373, s_Ins374.val, s_Outs375.val, .int .i64 n_Last376, s_Cells377.val], .int .i64 n379, .int .i64 k37] w368 fun e380 w381 => ∃ b382 : Bool, e380 = .returned (.bool b382) ∧
 brB (!b382)
 (K (.bool false) w381)
 (I2 (wr (j367 + (1 : Int))) w381 ∧ μ2 (wr (j367 + (1 : Int))) w381 < μ2 j367 w366))
 (I1 (wr (k37 + (1 : Int))) w366 ∧ μ1 (wr (k37 + (1 : Int))) w366 < μ1 k37 w36))) ∧
 ∀ w49 : World, w49 = World.drew w48 →
 ∃ S50 : World → Prop, S50 w49 ∧
 ∃ n51 : Int, held S50 ⟨b46, 0, none⟩ (.int .i64 n51) ∧
 brB (decide (n51 < (1 : Int)))
 (J12 true w49)
 (∃ n52 : Int, held S50 ⟨b46, 0, none⟩ (.int .i64 n52) ∧
 brB (decide (n52 > (12 : Int)))
 (J12 true w49)
 (∃ n53 : Int, held S50 ⟨b46, 0, none⟩ (.int .i64 n53) ∧
 brB (n53 == (4 : Int))
 (∃ n54 : Int, held S50 ⟨b46, 1, none⟩ (.int .i64 n54) ∧
 Calls Try.prog fn_hollowayref1_IsTwo #[.int .i64 n54] w49 fun e55 w56 => ∃ b57 : Bool, e55 = .returned (.bool b57) ∧
 S50 w56 ∧
 brB (!b57)
 (∃ n58 : Int, held S50 ⟨b46, 1, none⟩ (.int .i64 n58) ∧
 Calls Try.prog fn_hollowayref1_IsOne #[.int .i64 n58] w56 fun e59 w60 => ∃ b61 : Bool, e59 = .returned (.bool b61) ∧
 S50 w60 ∧
 brB (!b61)
 (J12 true w60)
 (∃ n62 : Int, held S50 ⟨b46, 0, none⟩ (.int .i64 n62) ∧
 brB (n62 == (2 : Int))
 (∃ n63 : Int, held S50 ⟨b46, 1, none⟩ (.int .i64 n63) ∧
 ∃ n64 : Int, held S50 ⟨b10, 1, none⟩ (.int .i64 n64) ∧
 Calls Try.prog fn_hollowayref15_within #[.int .i64 n63, .int .i64 (wr (n64 - (1 : Int)))] w60 fun e65 w66 => ∃ b67 : Bool, e65 = .returned (.bool b67) ∧
 S50 w66 ∧
 brB (!b67)
 (J12 true w66)
 (∃ n68 : Int, held S50 ⟨b46, 0, none⟩ (.int .i64 n68) ∧
 brB (n68 == (3 : Int))
 (∃ n69 : Int, held S50 ⟨b46, 1, none⟩ (.int .i64 n69) ∧
 ∃ n70 : Int, held S50 ⟨b10, 2, none⟩ (.int .i64 n70) ∧
 Calls Try.prog fn_hollowayref15_within #[.int .i64 n69, .int .i64 (wr (n70 - (1 : Int)))] w66 fun e71 w72 => ∃ b73 : Bool, e71 = .returned (.bool b73) ∧
 S50 w72 ∧
 brB (!b73)
 (J12 true w72)
 (∃ n_Start74 : Int, ∃ n_Slots75 : Int, ∃ n_Backs76 : Int, ∃ n_Grow77 : Int, ∃ n_GrowBack78 : Int, ∃ s_Ins79 : Sl, ∃ s_Outs80 : Sl, ∃ n_Last81 : Int, ∃ s_Cells82 : Sl, held S50 ⟨b10, 0, none⟩ (.int .i64 n_Start74) ∧ held S50 ⟨b10, 1, none⟩ (.int .i64 n_Slots75) ∧ held S50 ⟨b10, 2, none⟩ (.int .i64 n_Backs76) ∧ held S50 ⟨b10, 3, none⟩ (.int .i64 n_Grow77) ∧ held S50 ⟨b10, 4, none⟩ (.int .i64 n_GrowBack78) ∧ held S50 ⟨b10, 5, none⟩ (s_Ins79.val) ∧ held S50 ⟨b10, 6, none⟩ (s_Outs80.val) ∧ held S50 ⟨b10, 7, none⟩ (.int .i64 n_Last81) ∧ held S50 ⟨b10, 8, none⟩ (s_Cells82.val) ∧
 ∃ n_Op83 : Int, ∃ n_A84 : Int, ∃ n_B85 : Int, ∃ n_C86 : Int, ∃ n_X87 : Int, held S50 ⟨b46, 0, none⟩ (.int .i64 n_Op83) ∧ held S50 ⟨b46, 1, none⟩ (.int .i64 n_A84) ∧ held S50 ⟨b46, 2, none⟩ (.int .i64 n_B85) ∧ held S50 ⟨b46, 3, none⟩ (.int .i64 n_C86) ∧ held S50 ⟨b46, 4, none⟩ (.int .i64 n_X87) ∧
 Calls Try.prog fn_hollowayref15_Uses #[.agg #[.int .i64 n_Op83, .int .i64 n_A84, .int .i64 n_B85, .int .i64 n_C86, .int .i64 n_X87]] w72 fun e88 w89 => ∃ s90 : Sl, e88 = .returned (s90.val) ∧
 S50 w89 ∧
 Calls Try.prog fn_hollowayref15_named #[.agg #[.int .i64 n_Start74, .int .i64 n_Slots75, .int .i64 n_Backs76, .int .i64 n_Grow77, .int .i64 n_GrowBack78, s_Ins79.val, s_Outs80.val, .int .i64 n_Last81, s_Cells82.val], s90.val, .int .i64 k37] w89 fun e91 w92 => ∃ b93 : Bool, e91 = .returned (.bool b93) ∧
 J12 (!b93) w92))
 (∃ n_Start94 : Int, ∃ n_Slots95 : Int, ∃ n_Backs96 : Int, ∃ n_Grow97 : Int, ∃ n_GrowBack98 : Int, ∃ s_Ins99 : Sl, ∃ s_Outs100 : Sl, ∃ n_Last101 : Int, ∃ s_Cells102 : Sl, held S50 ⟨b10, 0, none⟩ (.int .i64 n_Start94) ∧ held S50 ⟨b10, 1, none⟩ (.int .i64 n_Slots95) ∧ held S50 ⟨b10, 2, none⟩ (.int .i64 n_Backs96) ∧ held S50 ⟨b10, 3, none⟩ (.int .i64 n_Grow97) ∧ held S50 ⟨b10, 4, none⟩ (.int .i64 n_GrowBack98) ∧ held S50 ⟨b10, 5, none⟩ (s_Ins99.val) ∧ held S50 ⟨b10, 6, none⟩ (s_Outs100.val) ∧ held S50 ⟨b10, 7, none⟩ (.int .i64 n_Last101) ∧ held S50 ⟨b10, 8, none⟩ (s_Cells102.val) ∧
 ∃ n_Op103 : Int, ∃ n_A104 : Int, ∃ n_B105 : Int, ∃ n_C106 : Int, ∃ n_X107 : Int, held S50 ⟨b46, 0, none⟩ (.int .i64 n_Op103) ∧ held S50 ⟨b46, 1, none⟩ (.int .i64 n_A104) ∧ held S50 ⟨b46, 2, none⟩ (.int .i64 n_B105) ∧ held S50 ⟨b46, 3, none⟩ (.int .i64 n_C106) ∧ held S50 ⟨b46, 4, none⟩ (.int .i64 n_X107) ∧
 Calls Try.prog fn_hollowayref15_Uses #[.agg #[.int .i64 n_Op103, .int .i64 n_A104, .int .i64 n_B105, .int .i64 n_C106, .int .i64 n_X107]] w66 fun e108 w109 => ∃ s110 : Sl, e108 = .returned (s110.val) ∧
 S50 w109 ∧
 Calls Try.prog fn_hollowayref15_named #[.agg #[.int .i64 n_Start94, .int .i64 n_Slots95, .int .i64 n_Backs96, .int .i64 n_Grow97, .int .i64 n_GrowBack98, s_Ins99.val, s_Outs100.val, .int .i64 n_Last101, s_Cells102.val], s110.val, .int .i64 k37] w109 fun e111 w112 => ∃ b113 : Bool, e111 = .returned (.bool b113) ∧
 J12 (!b113) w112)))
 (∃ n114 : Int, held S50 ⟨b46, 0, none⟩ (.int .i64 n114) ∧
 brB (n114 == (3 : Int))
 (∃ n115 : Int, held S50 ⟨b46, 1, none⟩ (.int .i64 n115) ∧
 ∃ n116 : Int, held S50 ⟨b10, 2, none⟩ (.int .i64 n116) ∧
 Calls Try.prog fn_hollowayref15_within #[.int .i64 n115, .int .i64 (wr (n116 - (1 : Int)))] w60 fun e117 w118 => ∃ b119 : Bool, e117 = .returned (.bool b119) ∧
 S50 w118 ∧
 brB (!b119)
 (J12 true w118)
 (∃ n_Start120 : Int, ∃ n_Slots121 : Int, ∃ n_Backs122 : Int, ∃ n_Grow123 : Int, ∃ n_GrowBack124 : Int, ∃ s_Ins125 : Sl, ∃ s_Outs126 : Sl, ∃ n_Last127 : Int, ∃ s_Cells128 : Sl, held S50 ⟨b10, 0, none⟩ (.int .i64 n_Start120) ∧ held S50 ⟨b10, 1, none⟩ (.int .i64 n_Slots121) ∧ held S50 ⟨b10, 2, none⟩ (.int .i64 n_Backs122) ∧ held S50 ⟨b10, 3, none⟩ (.int .i64 n_Grow123) ∧ held S50 ⟨b10, 4, none⟩ (.int .i64 n_GrowBack124) ∧ held S50 ⟨b10, 5, none⟩ (s_Ins125.val) ∧ held S50 ⟨b10, 6, none⟩ (s_Outs126.val) ∧ held S50 ⟨b10, 7, none⟩ (.int .i64 n_Last127) ∧ held S50 ⟨b10, 8, none⟩ (s_Cells128.val) ∧
 ∃ n_Op129 : Int, ∃ n_A130 : Int, ∃ n_B131 : Int, ∃ n_C132 : Int, ∃ n_X133 : Int, held S50 ⟨b46, 0, none⟩ (.int .i64 n_Op129) ∧ held S50 ⟨b46, 1, none⟩ (.int .i64 n_A130) ∧ held S50 ⟨b46, 2, none⟩ (.int .i64 n_B131) ∧ held S50 ⟨b46, 3, none⟩ (.int .i64 n_C132) ∧ held S50 ⟨b46, 4, none⟩ (.int .i64 n_X133) ∧
 Calls Try.prog fn_hollowayref15_Uses #[.agg #[.int .i64 n_Op129, .int .i64 n_A130, .int .i64 n_B131, .int .i64 n_C132, .int .i64 n_X133]] w118 fun e134 w135 => ∃ s136 : Sl, e134 = .returned (s136.val) ∧
 S50 w135 ∧
 Calls Try.prog fn_hollowayref15_named #[.agg #[.int .i64 n_Start120, .int .i64 n_Slots121, .int .i64 n_Backs122, .int .i64 n_Grow123, .int .i64 n_GrowBack124, s_Ins125.val, s_Outs126.val, .int .i64 n_Last127, s_Cells128.val], s136.val, .int .i64 k37] w135 fun e137 w138 => ∃ b139 : Bool, e137 = .returned (.bool b139) ∧
 J12 (!b139) w138))
 (∃ n_Start140 : Int, ∃ n_Slots141 : Int, ∃ n_Backs142 : Int, ∃ n_Grow143 : Int, ∃ n_GrowBack144 : Int, ∃ s_Ins145 : Sl, ∃ s_Outs146 : Sl, ∃ n_Last147 : Int, ∃ s_Cells148 : Sl, held S50 ⟨b10, 0, none⟩ (.int .i64 n_Start140) ∧ held S50 ⟨b10, 1, none⟩ (.int .i64 n_Slots141) ∧ held S50 ⟨b10, 2, none⟩ (.int .i64 n_Backs142) ∧ held S50 ⟨b10, 3, none⟩ (.int .i64 n_Grow143) ∧ held S50 ⟨b10, 4, none⟩ (.int .i64 n_GrowBack144) ∧ held S50 ⟨b10, 5, none⟩ (s_Ins145.val) ∧ held S50 ⟨b10, 6, none⟩ (s_Outs146.val) ∧ held S50 ⟨b10, 7, none⟩ (.int .i64 n_Last147) ∧ held S50 ⟨b10, 8, none⟩ (s_Cells148.val) ∧
 ∃ n_Op149 : Int, ∃ n_A150 : Int, ∃ n_B151 : Int, ∃ n_C152 : Int, ∃ n_X153 : Int, held S50 ⟨b46, 0, none⟩ (.int .i64 n_Op149) ∧ held S50 ⟨b46, 1, none⟩ (.int .i64 n_A150) ∧ held S50 ⟨b46, 2, none⟩ (.int .i64 n_B151) ∧ held S50 ⟨b46, 3, none⟩ (.int .i64 n_C152) ∧ held S50 ⟨b46, 4, none⟩ (.int .i64 n_X153) ∧
 Calls Try.prog fn_hollowayref15_Uses #[.agg #[.int .i64 n_Op149, .int .i64 n_A150, .int .i64 n_B151, .int .i64 n_C152, .int .i64 n_X153]] w60 fun e154 w155 => ∃ s156 : Sl, e154 = .returned (s156.val) ∧
 S50 w155 ∧
 Calls Try.prog fn_hollowayref15_named #[.agg #[.int .i64 n_Start140, .int .i64 n_Slots141, .int .i64 n_Backs142, .int .i64 n_Grow143, .int .i64 n_GrowBack144, s_Ins145.val, s_Outs146.val, .int .i64 n_Last147, s_Cells148.val], s156.val, .int .i64 k37] w155 fun e157 w158 => ∃ b159 : Bool, e157 = .returned (.bool b159) ∧
 J12 (!b159) w158))))
 (∃ n160 : Int, held S50 ⟨b46, 0, none⟩ (.int .i64 n160) ∧
 brB (n160 == (2 : Int))
 (∃ n161 : Int, held S50 ⟨b46, 1, none⟩ (.int .i64 n161) ∧
 ∃ n162 : Int, held S50 ⟨b10, 1, none⟩ (.int .i64 n162) ∧
 Calls Try.prog fn_hollowayref15_within #[.int .i64 n161, .int .i64 (wr (n162 - (1 : Int)))] w56 fun e163 w164 => ∃ b165 : Bool, e163 = .returned (.bool b165) ∧
 S50 w164 ∧
 brB (!b165)
 (J12 true w164)
 (∃ n166 : Int, held S50 ⟨b46, 0, none⟩ (.int .i64 n166) ∧
 brB (n166 == (3 : Int))
 (∃ n167 : Int, held S50 ⟨b46, 1, none⟩ (.int .i64 n167) ∧
 ∃ n168 : Int, held S50 ⟨b10, 2, none⟩ (.int .i64 n168) ∧
 Calls Try.prog fn_hollowayref15_within #[.int .i64 n167, .int .i64 (wr (n168 - (1 : Int)))] w164 fun e169 w170 => ∃ b171 : Bool, e169 = .returned (.bool b171) ∧
 S50 w170 ∧
 brB (!b171)
 (J12 true w170)
 (∃ n_Start172 : Int, ∃ n_Slots173 : Int, ∃ n_Backs174 : Int, ∃ n_Grow175 : Int, ∃ n_GrowBack176 : Int, ∃ s_Ins177 : Sl, ∃ s_Outs178 : Sl, ∃ n_Last179 : Int, ∃ s_Cells180 : Sl, held S50 ⟨b10, 0, none⟩ (.int .i64 n_Start172) ∧ held S50 ⟨b10, 1, none⟩ (.int .i64 n_Slots173) ∧ held S50 ⟨b10, 2, none⟩ (.int .i64 n_Backs174) ∧ held S50 ⟨b10, 3, none⟩ (.int .i64 n_Grow175) ∧ held S50 ⟨b10, 4, none⟩ (.int .i64 n_GrowBack176) ∧ held S50 ⟨b10, 5, none⟩ (s_Ins177.val) ∧ held S50 ⟨b10, 6, none⟩ (s_Outs178.val) ∧ held S50 ⟨b10, 7, none⟩ (.int .i64 n_Last179) ∧ held S50 ⟨b10, 8, none⟩ (s_Cells180.val) ∧
 ∃ n_Op181 : Int, ∃ n_A182 : Int, ∃ n_B183 : Int, ∃ n_C184 : Int, ∃ n_X185 : Int, held S50 ⟨b46, 0, none⟩ (.int .i64 n_Op181) ∧ held S50 ⟨b46, 1, none⟩ (.int .i64 n_A182) ∧ held S50 ⟨b46, 2, none⟩ (.int .i64 n_B183) ∧ held S50 ⟨b46, 3, none⟩ (.int .i64 n_C184) ∧ held S50 ⟨b46, 4, none⟩ (.int .i64 n_X185) ∧
 Calls Try.prog fn_hollowayref15_Uses #[.agg #[.int .i64 n_Op181, .int .i64 n_A182, .int .i64 n_B183, .int .i64 n_C184, .int .i64 n_X185]] w170 fun e186 w187 => ∃ s188 : Sl, e186 = .returned (s188.val) ∧
 S50 w187 ∧
 Calls Try.prog fn_hollowayref15_named #[.agg #[.int .i64 n_Start172, .int .i64 n_Slots173, .int .i64 n_Backs174, .int .i64 n_Grow175, .int .i64 n_GrowBack176, s_Ins177.val, s_Outs178.val, .int .i64 n_Last179, s_Cells180.val], s188.val, .int .i64 k37] w187 fun e189 w190 => ∃ b191 : Bool, e189 = .returned (.bool b191) ∧
 J12 (!b191) w190))
 (∃ n_Start192 : Int, ∃ n_Slots193 : Int, ∃ n_Backs194 : Int, ∃ n_Grow195 : Int, ∃ n_GrowBack196 : Int, ∃ s_Ins197 : Sl, ∃ s_Outs198 : Sl, ∃ n_Last199 : Int, ∃ s_Cells200 : Sl, held S50 ⟨b10, 0, none⟩ (.int .i64 n_Start192) ∧ held S50 ⟨b10, 1, none⟩ (.int .i64 n_Slots193) ∧ held S50 ⟨b10, 2, none⟩ (.int .i64 n_Backs194) ∧ held S50 ⟨b10, 3, none⟩ (.int .i64 n_Grow195) ∧ held S50 ⟨b10, 4, none⟩ (.int .i64 n_GrowBack196) ∧ held S50 ⟨b10, 5, none⟩ (s_Ins197.val) ∧ held S50 ⟨b10, 6, none⟩ (s_Outs198.val) ∧ held S50 ⟨b10, 7, none⟩ (.int .i64 n_Last199) ∧ held S50 ⟨b10, 8, none⟩ (s_Cells200.val) ∧
 ∃ n_Op201 : Int, ∃ n_A202 : Int, ∃ n_B203 : Int, ∃ n_C204 : Int, ∃ n_X205 : Int, held S50 ⟨b46, 0, none⟩ (.int .i64 n_Op201) ∧ held S50 ⟨b46, 1, none⟩ (.int .i64 n_A202) ∧ held S50 ⟨b46, 2, none⟩ (.int .i64 n_B203) ∧ held S50 ⟨b46, 3, none⟩ (.int .i64 n_C204) ∧ held S50 ⟨b46, 4, none⟩ (.int .i64 n_X205) ∧
 Calls Try.prog fn_hollowayref15_Uses #[.agg #[.int .i64 n_Op201, .int .i64 n_A202, .int .i64 n_B203, .int .i64 n_C204, .int .i64 n_X205]] w164 fun e206 w207 => ∃ s208 : Sl, e206 = .returned (s208.val) ∧
 S50 w207 ∧
 Calls Try.prog fn_hollowayref15_named #[.agg #[.int .i64 n_Start192, .int .i64 n_Slots193, .int .i64 n_Backs194, .int .i64 n_Grow195, .int .i64 n_GrowBack196, s_Ins197.val, s_Outs198.val, .int .i64 n_Last199, s_Cells200.val], s208.val, .int .i64 k37] w207 fun e209 w210 => ∃ b211 : Bool, e209 = .returned (.bool b211) ∧
 J12 (!b211) w210)))
 (∃ n212 : Int, held S50 ⟨b46, 0, none⟩ (.int .i64 n212) ∧
 brB (n212 == (3 : Int))
 (∃ n213 : Int, held S50 ⟨b46, 1, none⟩ (.int .i64 n213) ∧
 ∃ n214 : Int, held S50 ⟨b10, 2, none⟩ (.int .i64 n214) ∧
 Calls Try.prog fn_hollowayref15_within #[.int .i64 n213, .int .i64 (wr (n214 - (1 : Int)))] w56 fun e215 w216 => ∃ b217 : Bool, e215 = .returned (.bool b217) ∧
 S50 w216 ∧
 brB (!b217)
 (J12 true w216)
 (∃ n_Start218 : Int, ∃ n_Slots219 : Int, ∃ n_Backs220 : Int, ∃ n_Grow221 : Int, ∃ n_GrowBack222 : Int, ∃ s_Ins223 : Sl, ∃ s_Outs224 : Sl, ∃ n_Last225 : Int, ∃ s_Cells226 : Sl, held S50 ⟨b10, 0, none⟩ (.int .i64 n_Start218) ∧ held S50 ⟨b10, 1, none⟩ (.int .i64 n_Slots219) ∧ held S50 ⟨b10, 2, none⟩ (.int .i64 n_Backs220) ∧ held S50 ⟨b10, 3, none⟩ (.int .i64 n_Grow221) ∧ held S50 ⟨b10, 4, none⟩ (.int .i64 n_GrowBack222) ∧ held S50 ⟨b10, 5, none⟩ (s_Ins223.val) ∧ held S50 ⟨b10, 6, none⟩ (s_Outs224.val) ∧ held S50 ⟨b10, 7, none⟩ (.int .i64 n_Last225) ∧ held S50 ⟨b10, 8, none⟩ (s_Cells226.val) ∧
 ∃ n_Op227 : Int, ∃ n_A228 : Int, ∃ n_B229 : Int, ∃ n_C230 : Int, ∃ n_X231 : Int, held S50 ⟨b46, 0, none⟩ (.int .i64 n_Op227) ∧ held S50 ⟨b46, 1, none⟩ (.int .i64 n_A228) ∧ held S50 ⟨b46, 2, none⟩ (.int .i64 n_B229) ∧ held S50 ⟨b46, 3, none⟩ (.int .i64 n_C230) ∧ held S50 ⟨b46, 4, none⟩ (.int .i64 n_X231) ∧
 Calls Try.prog fn_hollowayref15_Uses #[.agg #[.int .i64 n_Op227, .int .i64 n_A228, .int .i64 n_B229, .int .i64 n_C230, .int .i64 n_X231]] w216 fun e232 w233 => ∃ s234 : Sl, e232 = .returned (s234.val) ∧
 S50 w233 ∧
 Calls Try.prog fn_hollowayref15_named #[.agg #[.int .i64 n_Start218, .int .i64 n_Slots219, .int .i64 n_Backs220, .int .i64 n_Grow221, .int .i64 n_GrowBack222, s_Ins223.val, s_Outs224.val, .int .i64 n_Last225, s_Cells226.val], s234.val, .int .i64 k37] w233 fun e235 w236 => ∃ b237 : Bool, e235 = .returned (.bool b237) ∧
 J12 (!b237) w236))
 (∃ n_Start238 : Int, ∃ n_Slots239 : Int, ∃ n_Backs240 : Int, ∃ n_Grow241 : Int, ∃ n_GrowBack242 : Int, ∃ s_Ins243 : Sl, ∃ s_Outs244 : Sl, ∃ n_Last245 : Int, ∃ s_Cells246 : Sl, held S50 ⟨b10, 0, none⟩ (.int .i64 n_Start238) ∧ held S50 ⟨b10, 1, none⟩ (.int .i64 n_Slots239) ∧ held S50 ⟨b10, 2, none⟩ (.int .i64 n_Backs240) ∧ held S50 ⟨b10, 3, none⟩ (.int .i64 n_Grow241) ∧ held S50 ⟨b10, 4, none⟩ (.int .i64 n_GrowBack242) ∧ held S50 ⟨b10, 5, none⟩ (s_Ins243.val) ∧ held S50 ⟨b10, 6, none⟩ (s_Outs244.val) ∧ held S50 ⟨b10, 7, none⟩ (.int .i64 n_Last245) ∧ held S50 ⟨b10, 8, none⟩ (s_Cells246.val) ∧
 ∃ n_Op247 : Int, ∃ n_A248 : Int, ∃ n_B249 : Int, ∃ n_C250 : Int, ∃ n_X251 : Int, held S50 ⟨b46, 0, none⟩ (.int .i64 n_Op247) ∧ held S50 ⟨b46, 1, none⟩ (.int .i64 n_A248) ∧ held S50 ⟨b46, 2, none⟩ (.int .i64 n_B249) ∧ held S50 ⟨b46, 3, none⟩ (.int .i64 n_C250) ∧ held S50 ⟨b46, 4, none⟩ (.int .i64 n_X251) ∧
 Calls Try.prog fn_hollowayref15_Uses #[.agg #[.int .i64 n_Op247, .int .i64 n_A248, .int .i64 n_B249, .int .i64 n_C250, .int .i64 n_X251]] w56 fun e252 w253 => ∃ s254 : Sl, e252 = .returned (s254.val) ∧
 S50 w253 ∧
 Calls Try.prog fn_hollowayref15_named #[.agg #[.int .i64 n_Start238, .int .i64 n_Slots239, .int .i64 n_Backs240, .int .i64 n_Grow241, .int .i64 n_GrowBack242, s_Ins243.val, s_Outs244.val, .int .i64 n_Last245, s_Cells246.val], s254.val, .int .i64 k37] w253 fun e255 w256 => ∃ b257 : Bool, e255 = .returned (.bool b257) ∧
 J12 (!b257) w256))))
 (∃ n258 : Int, held S50 ⟨b46, 0, none⟩ (.int .i64 n258) ∧
 brB (n258 == (2 : Int))
 (∃ n259 : Int, held S50 ⟨b46, 1, none⟩ (.int .i64 n259) ∧
 ∃ n260 : Int, held S50 ⟨b10, 1, none⟩ (.int .i64 n260) ∧
 Calls Try.prog fn_hollowayref15_within #[.int .i64 n259, .int .i64 (wr (n260 - (1 : Int)))] w49 fun e261 w262 => ∃ b263 : Bool, e261 = .returned (.bool b263) ∧
 S50 w262 ∧
 brB (!b263)
 (J12 true w262)
 (∃ n264 : Int, held S50 ⟨b46, 0, none⟩ (.int .i64 n264) ∧
 brB (n264 == (3 : Int))
 (∃ n265 : Int, held S50 ⟨b46, 1, none⟩ (.int .i64 n265) ∧
 ∃ n266 : Int, held S50 ⟨b10, 2, none⟩ (.int .i64 n266) ∧
 Calls Try.prog fn_hollowayref15_within #[.int .i64 n265, .int .i64 (wr (n266 - (1 : Int)))] w262 fun e267 w268 => ∃ b269 : Bool, e267 = .returned (.bool b269) ∧
 S50 w268 ∧
 brB (!b269)
 (J12 true w268)
 (∃ n_Start270 : Int, ∃ n_Slots271 : Int, ∃ n_Backs272 : Int, ∃ n_Grow273 : Int, ∃ n_GrowBack274 : Int, ∃ s_Ins275 : Sl, ∃ s_Outs276 : Sl, ∃ n_Last277 : Int, ∃ s_Cells278 : Sl, held S50 ⟨b10, 0, none⟩ (.int .i64 n_Start270) ∧ held S50 ⟨b10, 1, none⟩ (.int .i64 n_Slots271) ∧ held S50 ⟨b10, 2, none⟩ (.int .i64 n_Backs272) ∧ held S50 ⟨b10, 3, none⟩ (.int .i64 n_Grow273) ∧ held S50 ⟨b10, 4, none⟩ (.int .i64 n_GrowBack274) ∧ held S50 ⟨b10, 5, none⟩ (s_Ins275.val) ∧ held S50 ⟨b10, 6, none⟩ (s_Outs276.val) ∧ held S50 ⟨b10, 7, none⟩ (.int .i64 n_Last277) ∧ held S50 ⟨b10, 8, none⟩ (s_Cells278.val) ∧
 ∃ n_Op279 : Int, ∃ n_A280 : Int, ∃ n_B281 : Int, ∃ n_C282 : Int, ∃ n_X283 : Int, held S50 ⟨b46, 0, none⟩ (.int .i64 n_Op279) ∧ held S50 ⟨b46, 1, none⟩ (.int .i64 n_A280) ∧ held S50 ⟨b46, 2, none⟩ (.int .i64 n_B281) ∧ held S50 ⟨b46, 3, none⟩ (.int .i64 n_C282) ∧ held S50 ⟨b46, 4, none⟩ (.int .i64 n_X283) ∧
 Calls Try.prog fn_hollowayref15_Uses #[.agg #[.int .i64 n_Op279, .int .i64 n_A280, .int .i64 n_B281, .int .i64 n_C282, .int .i64 n_X283]] w268 fun e284 w285 => ∃ s286 : Sl, e284 = .returned (s286.val) ∧
 S50 w285 ∧
 Calls Try.prog fn_hollowayref15_named #[.agg #[.int .i64 n_Start270, .int .i64 n_Slots271, .int .i64 n_Backs272, .int .i64 n_Grow273, .int .i64 n_GrowBack274, s_Ins275.val, s_Outs276.val, .int .i64 n_Last277, s_Cells278.val], s286.val, .int .i64 k37] w285 fun e287 w288 => ∃ b289 : Bool, e287 = .returned (.bool b289) ∧
 J12 (!b289) w288))
 (∃ n_Start290 : Int, ∃ n_Slots291 : Int, ∃ n_Backs292 : Int, ∃ n_Grow293 : Int, ∃ n_GrowBack294 : Int, ∃ s_Ins295 : Sl, ∃ s_Outs296 : Sl, ∃ n_Last297 : Int, ∃ s_Cells298 : Sl, held S50 ⟨b10, 0, none⟩ (.int .i64 n_Start290) ∧ held S50 ⟨b10, 1, none⟩ (.int .i64 n_Slots291) ∧ held S50 ⟨b10, 2, none⟩ (.int .i64 n_Backs292) ∧ held S50 ⟨b10, 3, none⟩ (.int .i64 n_Grow293) ∧ held S50 ⟨b10, 4, none⟩ (.int .i64 n_GrowBack294) ∧ held S50 ⟨b10, 5, none⟩ (s_Ins295.val) ∧ held S50 ⟨b10, 6, none⟩ (s_Outs296.val) ∧ held S50 ⟨b10, 7, none⟩ (.int .i64 n_Last297) ∧ held S50 ⟨b10, 8, none⟩ (s_Cells298.val) ∧
 ∃ n_Op299 : Int, ∃ n_A300 : Int, ∃ n_B301 : Int, ∃ n_C302 : Int, ∃ n_X303 : Int, held S50 ⟨b46, 0, none⟩ (.int .i64 n_Op299) ∧ held S50 ⟨b46, 1, none⟩ (.int .i64 n_A300) ∧ held S50 ⟨b46, 2, none⟩ (.int .i64 n_B301) ∧ held S50 ⟨b46, 3, none⟩ (.int .i64 n_C302) ∧ held S50 ⟨b46, 4, none⟩ (.int .i64 n_X303) ∧
 Calls Try.prog fn_hollowayref15_Uses #[.agg #[.int .i64 n_Op299, .int .i64 n_A300, .int .i64 n_B301, .int .i64 n_C302, .int .i64 n_X303]] w262 fun e304 w305 => ∃ s306 : Sl, e304 = .returned (s306.val) ∧
 S50 w305 ∧
 Calls Try.prog fn_hollowayref15_named #[.agg #[.int .i64 n_Start290, .int .i64 n_Slots291, .int .i64 n_Backs292, .int .i64 n_Grow293, .int .i64 n_GrowBack294, s_Ins295.val, s_Outs296.val, .int .i64 n_Last297, s_Cells298.val], s306.val, .int .i64 k37] w305 fun e307 w308 => ∃ b309 : Bool, e307 = .returned (.bool b309) ∧
 J12 (!b309) w308)))
 (∃ n310 : Int, held S50 ⟨b46, 0, none⟩ (.int .i64 n310) ∧
 brB (n310 == (3 : Int))
 (∃ n311 : Int, held S50 ⟨b46, 1, none⟩ (.int .i64 n311) ∧
 ∃ n312 : Int, held S50 ⟨b10, 2, none⟩ (.int .i64 n312) ∧
 Calls Try.prog fn_hollowayref15_within #[.int .i64 n311, .int .i64 (wr (n312 - (1 : Int)))] w49 fun e313 w314 => ∃ b315 : Bool, e313 = .returned (.bool b315) ∧
 S50 w314 ∧
 brB (!b315)
 (J12 true w314)
 (∃ n_Start316 : Int, ∃ n_Slots317 : Int, ∃ n_Backs318 : Int, ∃ n_Grow319 : Int, ∃ n_GrowBack320 : Int, ∃ s_Ins321 : Sl, ∃ s_Outs322 : Sl, ∃ n_Last323 : Int, ∃ s_Cells324 : Sl, held S50 ⟨b10, 0, none⟩ (.int .i64 n_Start316) ∧ held S50 ⟨b10, 1, none⟩ (.int .i64 n_Slots317) ∧ held S50 ⟨b10, 2, none⟩ (.int .i64 n_Backs318) ∧ held S50 ⟨b10, 3, none⟩ (.int .i64 n_Grow319) ∧ held S50 ⟨b10, 4, none⟩ (.int .i64 n_GrowBack320) ∧ held S50 ⟨b10, 5, none⟩ (s_Ins321.val) ∧ held S50 ⟨b10, 6, none⟩ (s_Outs322.val) ∧ held S50 ⟨b10, 7, none⟩ (.int .i64 n_Last323) ∧ held S50 ⟨b10, 8, none⟩ (s_Cells324.val) ∧
 ∃ n_Op325 : Int, ∃ n_A326 : Int, ∃ n_B327 : Int, ∃ n_C328 : Int, ∃ n_X329 : Int, held S50 ⟨b46, 0, none⟩ (.int .i64 n_Op325) ∧ held S50 ⟨b46, 1, none⟩ (.int .i64 n_A326) ∧ held S50 ⟨b46, 2, none⟩ (.int .i64 n_B327) ∧ held S50 ⟨b46, 3, none⟩ (.int .i64 n_C328) ∧ held S50 ⟨b46, 4, none⟩ (.int .i64 n_X329) ∧
 Calls Try.prog fn_hollowayref15_Uses #[.agg #[.int .i64 n_Op325, .int .i64 n_A326, .int .i64 n_B327, .int .i64 n_C328, .int .i64 n_X329]] w314 fun e330 w331 => ∃ s332 : Sl, e330 = .returned (s332.val) ∧
 S50 w331 ∧
 Calls Try.prog fn_hollowayref15_named #[.agg #[.int .i64 n_Start316, .int .i64 n_Slots317, .int .i64 n_Backs318, .int .i64 n_Grow319, .int .i64 n_GrowBack320, s_Ins321.val, s_Outs322.val, .int .i64 n_Last323, s_Cells324.val], s332.val, .int .i64 k37] w331 fun e333 w334 => ∃ b335 : Bool, e333 = .returned (.bool b335) ∧
 J12 (!b335) w334))
 (∃ n_Start336 : Int, ∃ n_Slots337 : Int, ∃ n_Backs338 : Int, ∃ n_Grow339 : Int, ∃ n_GrowBack340 : Int, ∃ s_Ins341 : Sl, ∃ s_Outs342 : Sl, ∃ n_Last343 : Int, ∃ s_Cells344 : Sl, held S50 ⟨b10, 0, none⟩ (.int .i64 n_Start336) ∧ held S50 ⟨b10, 1, none⟩ (.int .i64 n_Slots337) ∧ held S50 ⟨b10, 2, none⟩ (.int .i64 n_Backs338) ∧ held S50 ⟨b10, 3, none⟩ (.int .i64 n_Grow339) ∧ held S50 ⟨b10, 4, none⟩ (.int .i64 n_GrowBack340) ∧ held S50 ⟨b10, 5, none⟩ (s_Ins341.val) ∧ held S50 ⟨b10, 6, none⟩ (s_Outs342.val) ∧ held S50 ⟨b10, 7, none⟩ (.int .i64 n_Last343) ∧ held S50 ⟨b10, 8, none⟩ (s_Cells344.val) ∧
 ∃ n_Op345 : Int, ∃ n_A346 : Int, ∃ n_B347 : Int, ∃ n_C348 : Int, ∃ n_X349 : Int, held S50 ⟨b46, 0, none⟩ (.int .i64 n_Op345) ∧ held S50 ⟨b46, 1, none⟩ (.int .i64 n_A346) ∧ held S50 ⟨b46, 2, none⟩ (.int .i64 n_B347) ∧ held S50 ⟨b46, 3, none⟩ (.int .i64 n_C348) ∧ held S50 ⟨b46, 4, none⟩ (.int .i64 n_X349) ∧
 Calls Try.prog fn_hollowayref15_Uses #[.agg #[.int .i64 n_Op345, .int .i64 n_A346, .int .i64 n_B347, .int .i64 n_C348, .int .i64 n_X349]] w49 fun e350 w351 => ∃ s352 : Sl, e350 = .returned (s352.val) ∧
 S50 w351 ∧
 Calls Try.prog fn_hollowayref15_named #[.agg #[.int .i64 n_Start336, .int .i64 n_Slots337, .int .i64 n_Backs338, .int .i64 n_Grow339, .int .i64 n_GrowBack340, s_Ins341.val, s_Outs342.val, .int .i64 n_Last343, s_Cells344.val], s352.val, .int .i64 k37] w351 fun e353 w354 => ∃ b355 : Bool, e353 = .returned (.bool b355) ∧
 J12 (!b355) w354))))))
 (∃ (I3 : Int → World → Prop) (μ3 : Int → World → Nat), I3 (0 : Int) w36 ∧ ∀ (k384 : Int) (w383 : World), I3 k384 w383 →
 ∃ s385 : Sl, w383.cell? ⟨b10, 6, none⟩ = some (s385.val) ∧
 brB (decide (k384 < (s385.len : Int)))
 (∃ s386 : Sl, w383.cell? ⟨b10, 6, none⟩ = some (s386.val) ∧
 ∃ a387 : Addr, s386.ptr = some a387 ∧ 0 ≤ k384 ∧ k384 < (s386.len : Int) ∧
 ∃ n_Ip388 : Int, ∃ n_Steps389 : Int, ∃ s_Stack390 : Sl, ∃ s_Back391 : Sl, w383.cell? (Addr.add a387 (Int.toNat k384 * 4)) = some (.int .i64 n_Ip388) ∧ w383.cell? (Addr.add (Addr.add a387 (Int.toNat k384 * 4)) 1) = some (.int .i64 n_Steps389) ∧ w383.cell? (Addr.add (Addr.add a387 (Int.toNat k384 * 4)) 2) = some (s_Stack390.val) ∧ w383.cell? (Addr.add (Addr.add a387 (Int.toNat k384 * 4)) 3) = some (s_Back391.val) ∧
 ∀ (b392 : Nat) (w393 : World), b392 = w383.heap.size → w393 = World.alloc w383 (.cells #[.int .i64 (0 : Int), .int .i64 (0 : Int), .slice none 0 0, .slice none 0 0] T_api_Out) →
 wrOk w393 ⟨b392, 0, none⟩ 4 ∧ ∀ w394 : World, w394 = stW w393 ⟨b392, 0, none⟩ 0 [.int .i64 n_Ip388, .int .i64 n_Steps389, s_Stack390.val, s_Back391.val] →
 ∃ J27 : Bool → World → Prop, (∀ (b410 : Bool) (w409 : World), J27 b410 w409 →
 brB b410
 (K (.bool false) w409)
 (I3 (wr (k384 + (1 : Int))) w409 ∧ μ3 (wr (k384 + (1 : Int))) w409 < μ3 k384 w383)) ∧
 ∃ n395 : Int, w394.cell? ⟨b392, 1, none⟩ = some (.int .i64 n395) ∧
 Calls Try.prog fn_hollowayref15_within #[.int .i64 n395, .int .i64 (120 : Int)] w394 fun e396 w397 => ∃ b398 : Bool, e396 = .returned (.bool b398) ∧
 brB (!b398)
 (J27 true w397)
 (∃ n399 : Int, w397.cell? ⟨b392, 0, none⟩ = some (.int .i64 n399) ∧
 Calls Try.prog fn_hollowayref15_within #[.int .i64 n399, .int .i64 (2999 : Int)] w397 fun e400 w401 => ∃ b402 : Bool, e400 = .returned (.bool b402) ∧
 brB (!b402)
 (J27 true w401)
 (∃ s403 : Sl, w401.cell? ⟨b392, 2, none⟩ = some (s403.val) ∧
 ∃ n404 : Int, w401.cell? ⟨b10, 1, none⟩ = some (.int .i64 n404) ∧
 ∃ n405 : Int, w401.cell? ⟨b10, 3, none⟩ = some (.int .i64 n405) ∧
 brB (decide ((s403.len : Int) > (wr (n404 + n405))))
 (J27 true w401)
 (∃ s406 : Sl, w401.cell? ⟨b392, 3, none⟩ = some (s406.val) ∧
 ∃ n407 : Int, w401.cell? ⟨b10, 2, none⟩ = some (.int .i64 n407) ∧
 ∃ n408 : Int, w401.cell? ⟨b10, 4, none⟩ = some (.int .i64 n408) ∧
 J27 (decide ((s406.len : Int) > (wr (n407 + n408)))) w401))))
 (∃ (I4 : Int → World → Prop) (μ4 : Int → World → Nat), I4 (0 : Int) w383 ∧ ∀ (k412 : Int) (w411 : World), I4 k412 w411 →
 ∃ s413 : Sl, w411.cell? ⟨b10, 8, none⟩ = some (s413.val) ∧
 brB (decide (k412 < (s413.len : Int)))
 (∃ J34 : Bool → World → Prop, (∀ (b429 : Bool) (w428 : World), J34 b429 w428 →
 brB b429
 (K (.bool false) w428)
 (I4 (wr (k412 + (1 : Int))) w428 ∧ μ4 (wr (k412 + (1 : Int))) w428 < μ4 k412 w411)) ∧
 ∀ w414 : World, w414 = World.drew w411 →
 ∃ S415 : World → Prop, S415 w414 ∧
 ∃ s416 : Sl, held S415 ⟨b10, 8, none⟩ (s416.val) ∧
 ∃ a417 : Addr, s416.ptr = some a417 ∧ 0 ≤ k412 ∧ k412 < (s416.len : Int) ∧
 ∃ n418 : Int, held S415 (Addr.add a417 (Int.toNat k412 * 1)) (.int .i64 n418) ∧
 Calls Try.prog fn_hollowayref15_within #[.int .i64 n418, .int .i64 (2999 : Int)] w414 fun e419 w420 => ∃ b421 : Bool, e419 = .returned (.bool b421) ∧
 S415 w420 ∧
 brB (!b421)
 (J34 true w420)
 (brB (decide (k412 > (0 : Int)))
 (∃ s422 : Sl, held S415 ⟨b10, 8, none⟩ (s422.val) ∧
 ∃ a423 : Addr, s422.ptr = some a423 ∧ 0 ≤ (wr (k412 - (1 : Int))) ∧ (wr (k412 - (1 : Int))) < (s422.len : Int) ∧
 ∃ n424 : Int, held S415 (Addr.add a423 (Int.toNat (wr (k412 - (1 : Int))) * 1)) (.int .i64 n424) ∧
 ∃ s425 : Sl, held S415 ⟨b10, 8, none⟩ (s425.val) ∧
 ∃ a426 : Addr, s425.ptr = some a426 ∧ 0 ≤ k412 ∧ k412 < (s425.len : Int) ∧
 ∃ n427 : Int, held S415 (Addr.add a426 (Int.toNat k412 * 1)) (.int .i64 n427) ∧
 J34 (decide (n424 ≥ n427)) w420)
 (J34 false w420)))
 (∃ n_Start430 : Int, ∃ n_Slots431 : Int, ∃ n_Backs432 : Int, ∃ n_Grow433 : Int, ∃ n_GrowBack434 : Int, ∃ s_Ins435 : Sl, ∃ s_Outs436 : Sl, ∃ n_Last437 : Int, ∃ s_Cells438 : Sl, w411.cell? ⟨b10, 0, none⟩ = some (.int .i64 n_Start430) ∧ w411.cell? ⟨b10, 1, none⟩ = some (.int .i64 n_Slots431) ∧ w411.cell? ⟨b10, 2, none⟩ = some (.int .i64 n_Backs432) ∧ w411.cell? ⟨b10, 3, none⟩ = some (.int .i64 n_Grow433) ∧ w411.cell? ⟨b10, 4, none⟩ = some (.int .i64 n_GrowBack434) ∧ w411.cell? ⟨b10, 5, none⟩ = some (s_Ins435.val) ∧ w411.cell? ⟨b10, 6, none⟩ = some (s_Outs436.val) ∧ w411.cell? ⟨b10, 7, none⟩ = some (.int .i64 n_Last437) ∧ w411.cell? ⟨b10, 8, none⟩ = some (s_Cells438.val) ∧
 ∃ n439 : Int, w411.cell? ⟨b10, 7, none⟩ = some (.int .i64 n439) ∧
 ∃ s440 : Sl, w411.cell? ⟨b10, 5, none⟩ = some (s440.val) ∧
 Calls Try.prog fn_hollowayref15_out #[.agg #[.int .i64 n_Start430, .int .i64 n_Slots431, .int .i64 n_Backs432, .int .i64 n_Grow433, .int .i64 n_GrowBack434, s_Ins435.val, s_Outs436.val, .int .i64 n_Last437, s_Cells438.val], .int .i64 n439, .int .i64 (s440.len : Int)] w411 fun e441 w442 => ∃ b443 : Bool, e441 = .returned (.bool b443) ∧
 brB b443
 (∃ s444 : Sl, w442.cell? ⟨b10, 6, none⟩ = some (s444.val) ∧
 ∃ n445 : Int, w442.cell? ⟨b10, 7, none⟩ = some (.int .i64 n445) ∧
 ∃ a446 : Addr, s444.ptr = some a446 ∧ 0 ≤ n445 ∧ n445 < (s444.len : Int) ∧
 ∃ n447 : Int, w442.cell? (Addr.add (Addr.add a446 (Int.toNat n445 * 4)) 1) = some (.int .i64 n447) ∧
 K (.bool (decide (n447 ≥ (1 : Int)))) w442)
 (K (.bool false) w442)))))) ∧
 ∃ s12 : Sl, w11.cell? ⟨b10, 5, none⟩ = some (s12.val) ∧
 brB (decide ((s12.len : Int) > (1000 : Int)))
 (J3 true w11)
 (∃ s13 : Sl, w11.cell? ⟨b10, 6, none⟩ = some (s13.val) ∧
 brB (decide ((s13.len : Int) > (300 : Int)))
 (J3 true w11)
 (∃ n14 : Int, w11.cell? ⟨b10, 0, none⟩ = some (.int .i64 n14) ∧
 Calls Try.prog fn_hollowayref15_within #[.int .i64 n14, .int .i64 (2999 : Int)] w11 fun e15 w16 => ∃ b17 : Bool, e15 = .returned (.bool b17) ∧
 brB (!b17)
 (J3 true w16)
 (∃ n18 : Int, w16.cell? ⟨b10, 1, none⟩ = some (.int .i64 n18) ∧
 Calls Try.prog fn_hollowayref15_within #[.int .i64 n18, .int .i64 (48 : Int)] w16 fun e19 w20 => ∃ b21 : Bool, e19 = .returned (.bool b21) ∧
 brB (!b21)
 (J3 true w20)
 (∃ n22 : Int, w20.cell? ⟨b10, 3, none⟩ = some (.int .i64 n22) ∧
 Calls Try.prog fn_hollowayref15_within #[.int .i64 n22, .int .i64 (48 : Int)] w20 fun e23 w24 => ∃ b25 : Bool, e23 = .returned (.bool b25) ∧
 brB (!b25)
 (J3 true w24)
 (∃ n26 : Int, w24.cell? ⟨b10, 2, none⟩ = some (.int .i64 n26) ∧
 Calls Try.prog fn_hollowayref15_within #[.int .i64 n26, .int .i64 (48 : Int)] w24 fun e27 w28 => ∃ b29 : Bool, e27 = .returned (.bool b29) ∧
 brB (!b29)
 (J3 true w28)
 (∃ n30 : Int, w28.cell? ⟨b10, 4, none⟩ = some (.int .i64 n30) ∧
 Calls Try.prog fn_hollowayref15_within #[.int .i64 n30, .int .i64 (48 : Int)] w28 fun e31 w32 => ∃ b33 : Bool, e31 = .returned (.bool b33) ∧
 J3 (!b33) w32))))))
def hollowayref15_Right_an : An := ⟨[(4, [(3, .int .i64)]), (11, [(6, .int .i64)]), (16, [(7, .int .i64)]), (22, [(9, .int .i64)])], [(7, (58, .st 0 (.st 1 (.st 2 (.st 3 (.st 4 (.st 5 (.st 6 (.st 7 (.st 8 (.st 9 (.st 10 (.st 11 (.st 12 (.st 13 (.st 14 (.ef 15 (.st 16 (.st 17 (.st 18 (.st 19 (.st 20 (.ef 21 (.st 22 (.st 23 (.st 24 (.st 25 (.st 26 (.st 27 (.st 28 (.st 29 (.st 30 (.st 31 (.st 32 (.st 33 (.st 34 (.ef 35 (.st 36 (.st 37 (.st 38 (.st 39 (.st 40 (.st 41 (.st 42 (.st 43 (.st 44 (.st 45 (.st 46 (.st 47 (.st 48 (.ef 49 (.st 50 (.st 51 (.st 52 (.st 53 (.st 54 (.st 55 (.st 57 (.ef 56 .done))))))))))))))))))))))))))))))))))))))))))))))))))))))))), 1)), (13, (6, .st 0 (.st 1 (.st 2 (.st 3 (.st 4 (.st 5 .done))))), 0)), (24, (22, .st 0 (.st 1 (.st 2 (.st 3 (.st 4 (.ef 5 (.st 6 (.st 7 (.st 8 (.st 9 (.st 10 (.st 11 (.st 12 (.st 13 (.st 14 (.st 15 (.st 16 (.st 17 (.st 18 (.st 19 (.st 20 (.st 21 .done))))))))))))))))))))), 1))], [(2, [(49, .bool)]), (8, [(122, .bool)]), (20, [(182, .bool)]), (25, [(214, .bool)])]⟩
theorem hollowayref15_Right_lift {t__Start1 : Int} {t__Slots2 : Int} {t__Backs3 : Int} {t__Grow4 : Int} {t__GrowBack5 : Int} {t__Ins6 : Sl} {t__Outs7 : Sl} {t__Last8 : Int} {t__Cells9 : Sl} {w : World} {K : Value → World → Prop} (h : hollowayref15_Right_sh t__Start1 t__Slots2 t__Backs3 t__Grow4 t__GrowBack5 t__Ins6 t__Outs7 t__Last8 t__Cells9 w K) : Calls Try.prog fn_hollowayref15_Right #[.agg #[.int .i64 t__Start1, .int .i64 t__Slots2, .int .i64 t__Backs3, .int .i64 t__Grow4, .int .i64 t__GrowBack5, t__Ins6.val, t__Outs7.val, .int .i64 t__Last8, t__Cells9.val]] w fun e w' => ∃ v, e = .returned v ∧ K v w' :=
   lift_calls (A := hollowayref15_Right_an) (c := bodyOf Try.f11) (args := [.agg #[.int .i64 t__Start1, .int .i64 t__Slots2, .int .i64 t__Backs3, .int .i64 t__Grow4, .int .i64 t__GrowBack5, t__Ins6.val, t__Outs7.val, .int .i64 t__Last8, t__Cells9.val]]) orc orc_wide Try.func11 (by kernel_rfl) (by kernel_rfl) (Eq.mp (by kernel_rfl : hollowayref15_Right_sh t__Start1 t__Slots2 t__Backs3 t__Grow4 t__GrowBack5 t__Ins6 t__Outs7 t__Last8 t__Cells9 w K = wpc orc Try.f11.ntmps hollowayref15_Right_an (bodyOf Try.f11) (argl 0 [.agg #[.int .i64 t__Start1, .int .i64 t__Slots2, .int .i64 t__Backs3, .int .i64 t__Grow4, .int .i64 t__GrowBack5, t__Ins6.val, t__Outs7.val, .int .i64 t__Last8, t__Cells9.val]]) w (retQ orc Try.f11.results.toList K)) h)

-- holloway/hollowayref15.within
def hollowayref15_within_sh (v_1 : Int) (most2 : Int) (w : World) (K : Value → World → Prop) : Prop :=
 brB (decide (v_1 ≥ (0 : Int)))
 (K (.bool (decide (v_1 ≤ most2))) w)
 (K (.bool false) w)
def hollowayref15_within_an : An := ⟨[], [], []⟩
theorem hollowayref15_within_lift {v_1 : Int} {most2 : Int} {w : World} {K : Value → World → Prop} (h : hollowayref15_within_sh v_1 most2 w K) : Calls Try.prog fn_hollowayref15_within #[.int .i64 v_1, .int .i64 most2] w fun e w' => ∃ v, e = .returned v ∧ K v w' :=
   lift_calls (A := hollowayref15_within_an) (c := bodyOf Try.f32) (args := [.int .i64 v_1, .int .i64 most2]) orc orc_wide Try.func32 (by kernel_rfl) (by kernel_rfl) (Eq.mp (by kernel_rfl : hollowayref15_within_sh v_1 most2 w K = wpc orc Try.f32.ntmps hollowayref15_within_an (bodyOf Try.f32) (argl 0 [.int .i64 v_1, .int .i64 most2]) w (retQ orc Try.f32.results.toList K)) h)

-- holloway/hollowayref15.named
def hollowayref15_named_sh (t__Start1 : Int) (t__Slots2 : Int) (t__Backs3 : Int) (t__Grow4 : Int) (t__GrowBack5 : Int) (t__Ins6 : Sl) (t__Outs7 : Sl) (t__Last8 : Int) (t__Cells9 : Sl) (l_10 : Sl) (than11 : Int) (w : World) (K : Value → World → Prop) : Prop :=
 ∀ (b12 : Nat) (w13 : World), b12 = w.heap.size → w13 = World.alloc w (.cells #[.int .i64 t__Start1, .int .i64 t__Slots2, .int .i64 t__Backs3, .int .i64 t__Grow4, .int .i64 t__GrowBack5, t__Ins6.val, t__Outs7.val, .int .i64 t__Last8, t__Cells9.val] T_api_Trace) →
 ∃ (I1 : Int → World → Prop) (μ1 : Int → World → Nat), I1 (0 : Int) w13 ∧ ∀ (i15 : Int) (w14 : World), I1 i15 w14 →
 brB (decide (i15 < (l_10.len : Int)))
 (∃ J7 : Bool → World → Prop, (∀ (b30 : Bool) (w29 : World), J7 b30 w29 →
 brB b30
 (K (.bool false) w29)
 (I1 (wr (i15 + (1 : Int))) w29 ∧ μ1 (wr (i15 + (1 : Int))) w29 < μ1 i15 w14)) ∧
 ∀ w16 : World, w16 = World.drew w14 →
 ∃ a17 : Addr, l_10.ptr = some a17 ∧ 0 ≤ i15 ∧ i15 < (l_10.len : Int) ∧
 ∃ n18 : Int, held (Lw w16) (Addr.add a17 (Int.toNat i15 * 1)) (.int .i64 n18) ∧
 brB (decide (n18 < (0 : Int)))
 (J7 true w16)
 (∃ a19 : Addr, l_10.ptr = some a19 ∧ 0 ≤ i15 ∧ i15 < (l_10.len : Int) ∧
 ∃ n20 : Int, held (Lw w16) (Addr.add a19 (Int.toNat i15 * 1)) (.int .i64 n20) ∧
 brB (decide (n20 ≥ than11))
 (J7 true w16)
 (∃ s21 : Sl, held (Lw w16) ⟨b12, 5, none⟩ (s21.val) ∧
 ∃ a22 : Addr, l_10.ptr = some a22 ∧ 0 ≤ i15 ∧ i15 < (l_10.len : Int) ∧
 ∃ n23 : Int, held (Lw w16) (Addr.add a22 (Int.toNat i15 * 1)) (.int .i64 n23) ∧
 ∃ a24 : Addr, s21.ptr = some a24 ∧ 0 ≤ n23 ∧ n23 < (s21.len : Int) ∧
 ∃ n25 : Int, held (Lw w16) (Addr.add a24 (Int.toNat n23 * 5)) (.int .i64 n25) ∧
 Calls Try.prog fn_hollowayref15_Gives #[.int .i64 n25] w16 fun e26 w27 => ∃ b28 : Bool, e26 = .returned (.bool b28) ∧
 J7 (!b28) w27)))
 (K (.bool true) w14)
def hollowayref15_named_an : An := ⟨[(2, [(7, .int .i64)])], [(4, (23, .st 0 (.st 1 (.st 2 (.st 3 (.st 4 (.st 5 (.st 6 (.st 7 (.st 8 (.st 9 (.st 10 (.st 11 (.st 12 (.st 13 (.st 14 (.st 15 (.st 16 (.st 17 (.st 18 (.st 19 (.st 20 (.st 21 (.st 22 .done)))))))))))))))))))))), 0))], [(5, [(39, .bool)])]⟩
theorem hollowayref15_named_lift {t__Start1 : Int} {t__Slots2 : Int} {t__Backs3 : Int} {t__Grow4 : Int} {t__GrowBack5 : Int} {t__Ins6 : Sl} {t__Outs7 : Sl} {t__Last8 : Int} {t__Cells9 : Sl} {l_10 : Sl} {than11 : Int} {w : World} {K : Value → World → Prop} (h : hollowayref15_named_sh t__Start1 t__Slots2 t__Backs3 t__Grow4 t__GrowBack5 t__Ins6 t__Outs7 t__Last8 t__Cells9 l_10 than11 w K) : Calls Try.prog fn_hollowayref15_named #[.agg #[.int .i64 t__Start1, .int .i64 t__Slots2, .int .i64 t__Backs3, .int .i64 t__Grow4, .int .i64 t__GrowBack5, t__Ins6.val, t__Outs7.val, .int .i64 t__Last8, t__Cells9.val], l_10.val, .int .i64 than11] w fun e w' => ∃ v, e = .returned v ∧ K v w' :=
   lift_calls (A := hollowayref15_named_an) (c := bodyOf Try.f35) (args := [.agg #[.int .i64 t__Start1, .int .i64 t__Slots2, .int .i64 t__Backs3, .int .i64 t__Grow4, .int .i64 t__GrowBack5, t__Ins6.val, t__Outs7.val, .int .i64 t__Last8, t__Cells9.val], l_10.val, .int .i64 than11]) orc orc_wide Try.func35 (by kernel_rfl) (by kernel_rfl) (Eq.mp (by kernel_rfl : hollowayref15_named_sh t__Start1 t__Slots2 t__Backs3 t__Grow4 t__GrowBack5 t__Ins6 t__Outs7 t__Last8 t__Cells9 l_10 than11 w K = wpc orc Try.f35.ntmps hollowayref15_named_an (bodyOf Try.f35) (argl 0 [.agg #[.int .i64 t__Start1, .int .i64 t__Slots2, .int .i64 t__Backs3, .int .i64 t__Grow4, .int .i64 t__GrowBack5, t__Ins6.val, t__Outs7.val, .int .i64 t__Last8, t__Cells9.val], l_10.val, .int .i64 than11]) w (retQ orc Try.f35.results.toList K)) h)

-- holloway/hollowayref15.Uses
def hollowayref15_Uses_sh (i__Op1 : Int) (i__A2 : Int) (i__B3 : Int) (i__C4 : Int) (i__X5 : Int) (w : World) (K : Value → World → Prop) : Prop :=
 ∀ (b6 : Nat) (w7 : World), b6 = w.heap.size → w7 = World.alloc w (.cells #[.int .i64 i__Op1, .int .i64 i__A2, .int .i64 i__B3, .int .i64 i__C4, .int .i64 i__X5] T_api_Ins) →
 ∃ n8 : Int, w7.cell? ⟨b6, 0, none⟩ = some (.int .i64 n8) ∧
 brB (n8 == (4 : Int))
 (∃ n9 : Int, w7.cell? ⟨b6, 1, none⟩ = some (.int .i64 n9) ∧
 Calls Try.prog fn_hollowayref1_IsTwo #[.int .i64 n9] w7 fun e10 w11 => ∃ b12 : Bool, e10 = .returned (.bool b12) ∧
 brB b12
 (∃ n13 : Int, w11.cell? ⟨b6, 2, none⟩ = some (.int .i64 n13) ∧
 ∃ n14 : Int, w11.cell? ⟨b6, 3, none⟩ = some (.int .i64 n14) ∧
 ∀ (b15 : Nat) (w16 : World), b15 = w11.heap.size → w16 = World.alloc w11 (.cells #[.int .i64 n13, .int .i64 n14] T_int) →
 K (.slice (some ⟨b15, 0, none⟩) 2 2) w16)
 (∃ n17 : Int, w11.cell? ⟨b6, 2, none⟩ = some (.int .i64 n17) ∧
 ∀ (b18 : Nat) (w19 : World), b18 = w11.heap.size → w19 = World.alloc w11 (.cells #[.int .i64 n17] T_int) →
 K (.slice (some ⟨b18, 0, none⟩) 1 1) w19))
 (∃ J9 : Bool → World → Prop, (∀ (b21 : Bool) (w20 : World), J9 b21 w20 →
 brB b21
 (∃ n22 : Int, w20.cell? ⟨b6, 2, none⟩ = some (.int .i64 n22) ∧
 ∀ (b23 : Nat) (w24 : World), b23 = w20.heap.size → w24 = World.alloc w20 (.cells #[.int .i64 n22] T_int) →
 K (.slice (some ⟨b23, 0, none⟩) 1 1) w24)
 (∃ J15 : Bool → World → Prop, (∀ (b26 : Bool) (w25 : World), J15 b26 w25 →
 brB b26
 (∃ n27 : Int, w25.cell? ⟨b6, 2, none⟩ = some (.int .i64 n27) ∧
 ∃ n28 : Int, w25.cell? ⟨b6, 3, none⟩ = some (.int .i64 n28) ∧
 ∀ (b29 : Nat) (w30 : World), b29 = w25.heap.size → w30 = World.alloc w25 (.cells #[.int .i64 n27, .int .i64 n28] T_int) →
 K (.slice (some ⟨b29, 0, none⟩) 2 2) w30)
 (K (.slice none 0 0) w25)) ∧
 brB (n8 == (6 : Int))
 (J15 (n8 == (6 : Int)) w20)
 (J15 (n8 == (9 : Int)) w20))) ∧
 brB (n8 == (5 : Int))
 (J9 (n8 == (5 : Int)) w7)
 (brB (n8 == (7 : Int))
 (J9 (n8 == (7 : Int)) w7)
 (brB (n8 == (8 : Int))
 (J9 (n8 == (8 : Int)) w7)
 (brB (n8 == (10 : Int))
 (J9 (n8 == (10 : Int)) w7)
 (J9 (n8 == (11 : Int)) w7)))))
def hollowayref15_Uses_an : An := ⟨[], [], [(14, [(27, .bool)]), (11, [(18, .bool)])]⟩
theorem hollowayref15_Uses_lift {i__Op1 : Int} {i__A2 : Int} {i__B3 : Int} {i__C4 : Int} {i__X5 : Int} {w : World} {K : Value → World → Prop} (h : hollowayref15_Uses_sh i__Op1 i__A2 i__B3 i__C4 i__X5 w K) : Calls Try.prog fn_hollowayref15_Uses #[.agg #[.int .i64 i__Op1, .int .i64 i__A2, .int .i64 i__B3, .int .i64 i__C4, .int .i64 i__X5]] w fun e w' => ∃ v, e = .returned v ∧ K v w' :=
   lift_calls (A := hollowayref15_Uses_an) (c := bodyOf Try.f36) (args := [.agg #[.int .i64 i__Op1, .int .i64 i__A2, .int .i64 i__B3, .int .i64 i__C4, .int .i64 i__X5]]) orc orc_wide Try.func36 (by kernel_rfl) (by kernel_rfl) (Eq.mp (by kernel_rfl : hollowayref15_Uses_sh i__Op1 i__A2 i__B3 i__C4 i__X5 w K = wpc orc Try.f36.ntmps hollowayref15_Uses_an (bodyOf Try.f36) (argl 0 [.agg #[.int .i64 i__Op1, .int .i64 i__A2, .int .i64 i__B3, .int .i64 i__C4, .int .i64 i__X5]]) w (retQ orc Try.f36.results.toList K)) h)

-- holloway/hollowayref15.Outs
def hollowayref15_Outs_sh (i__Op1 : Int) (i__A2 : Int) (i__B3 : Int) (i__C4 : Int) (i__X5 : Int) (w : World) (K : Value → World → Prop) : Prop :=
 ∀ (b6 : Nat) (w7 : World), b6 = w.heap.size → w7 = World.alloc w (.cells #[.int .i64 i__Op1, .int .i64 i__A2, .int .i64 i__B3, .int .i64 i__C4, .int .i64 i__X5] T_api_Ins) →
 ∃ n8 : Int, w7.cell? ⟨b6, 0, none⟩ = some (.int .i64 n8) ∧
 brB (n8 == (4 : Int))
 (∃ J5 : Bool → World → Prop, (∀ (b12 : Bool) (w11 : World), J5 b12 w11 →
 brB b12
 (∃ n13 : Int, w11.cell? ⟨b6, 4, none⟩ = some (.int .i64 n13) ∧
 ∀ (b14 : Nat) (w15 : World), b14 = w11.heap.size → w15 = World.alloc w11 (.cells #[.int .i64 n13] T_int) →
 K (.slice (some ⟨b14, 0, none⟩) 1 1) w15)
 (K (.slice none 0 0) w11)) ∧
 ∃ n9 : Int, w7.cell? ⟨b6, 1, none⟩ = some (.int .i64 n9) ∧
 brB (n9 == (14 : Int))
 (J5 true w7)
 (∃ n10 : Int, w7.cell? ⟨b6, 1, none⟩ = some (.int .i64 n10) ∧
 J5 (n10 == (15 : Int)) w7))
 (∃ J7 : Bool → World → Prop, (∀ (b17 : Bool) (w16 : World), J7 b17 w16 →
 brB b17
 (∃ n18 : Int, w16.cell? ⟨b6, 4, none⟩ = some (.int .i64 n18) ∧
 ∀ (b19 : Nat) (w20 : World), b19 = w16.heap.size → w20 = World.alloc w16 (.cells #[.int .i64 n18] T_int) →
 K (.slice (some ⟨b19, 0, none⟩) 1 1) w20)
 (brB (n8 == (6 : Int))
 (∃ n21 : Int, w16.cell? ⟨b6, 4, none⟩ = some (.int .i64 n21) ∧
 ∃ n22 : Int, w16.cell? ⟨b6, 1, none⟩ = some (.int .i64 n22) ∧
 ∀ (b23 : Nat) (w24 : World), b23 = w16.heap.size → w24 = World.alloc w16 (.cells #[.int .i64 n21, .int .i64 n22] T_int) →
 K (.slice (some ⟨b23, 0, none⟩) 2 2) w24)
 (K (.slice none 0 0) w16))) ∧
 brB (n8 == (5 : Int))
 (J7 (n8 == (5 : Int)) w7)
 (brB (n8 == (7 : Int))
 (J7 (n8 == (7 : Int)) w7)
 (brB (n8 == (8 : Int))
 (J7 (n8 == (8 : Int)) w7)
 (brB (n8 == (9 : Int))
 (J7 (n8 == (9 : Int)) w7)
 (brB (n8 == (10 : Int))
 (J7 (n8 == (10 : Int)) w7)
 (J7 (n8 == (11 : Int)) w7))))))
def hollowayref15_Outs_an : An := ⟨[], [], [(4, [(14, .bool)]), (11, [(18, .bool)])]⟩
theorem hollowayref15_Outs_lift {i__Op1 : Int} {i__A2 : Int} {i__B3 : Int} {i__C4 : Int} {i__X5 : Int} {w : World} {K : Value → World → Prop} (h : hollowayref15_Outs_sh i__Op1 i__A2 i__B3 i__C4 i__X5 w K) : Calls Try.prog fn_hollowayref15_Outs #[.agg #[.int .i64 i__Op1, .int .i64 i__A2, .int .i64 i__B3, .int .i64 i__C4, .int .i64 i__X5]] w fun e w' => ∃ v, e = .returned v ∧ K v w' :=
   lift_calls (A := hollowayref15_Outs_an) (c := bodyOf Try.f37) (args := [.agg #[.int .i64 i__Op1, .int .i64 i__A2, .int .i64 i__B3, .int .i64 i__C4, .int .i64 i__X5]]) orc orc_wide Try.func37 (by kernel_rfl) (by kernel_rfl) (Eq.mp (by kernel_rfl : hollowayref15_Outs_sh i__Op1 i__A2 i__B3 i__C4 i__X5 w K = wpc orc Try.f37.ntmps hollowayref15_Outs_an (bodyOf Try.f37) (argl 0 [.agg #[.int .i64 i__Op1, .int .i64 i__A2, .int .i64 i__B3, .int .i64 i__C4, .int .i64 i__X5]]) w (retQ orc Try.f37.results.toList K)) h)

-- holloway/hollowayref15.out
def hollowayref15_out_sh (t__Start1 : Int) (t__Slots2 : Int) (t__Backs3 : Int) (t__Grow4 : Int) (t__GrowBack5 : Int) (t__Ins6 : Sl) (t__Outs7 : Sl) (t__Last8 : Int) (t__Cells9 : Sl) (x_10 : Int) (at_11 : Int) (w : World) (K : Value → World → Prop) : Prop :=
 ∀ (b12 : Nat) (w13 : World), b12 = w.heap.size → w13 = World.alloc w (.cells #[.int .i64 t__Start1, .int .i64 t__Slots2, .int .i64 t__Backs3, .int .i64 t__Grow4, .int .i64 t__GrowBack5, t__Ins6.val, t__Outs7.val, .int .i64 t__Last8, t__Cells9.val] T_api_Trace) →
 ∀ w14 : World, w14 = World.drew w13 →
 ∃ S15 : World → Prop, S15 w14 ∧
 brB (decide (x_10 ≥ (0 : Int)))
 (∃ s16 : Sl, held S15 ⟨b12, 6, none⟩ (s16.val) ∧
 brB (decide (x_10 < (s16.len : Int)))
 (∃ n_Start17 : Int, ∃ n_Slots18 : Int, ∃ n_Backs19 : Int, ∃ n_Grow20 : Int, ∃ n_GrowBack21 : Int, ∃ s_Ins22 : Sl, ∃ s_Outs23 : Sl, ∃ n_Last24 : Int, ∃ s_Cells25 : Sl, held S15 ⟨b12, 0, none⟩ (.int .i64 n_Start17) ∧ held S15 ⟨b12, 1, none⟩ (.int .i64 n_Slots18) ∧ held S15 ⟨b12, 2, none⟩ (.int .i64 n_Backs19) ∧ held S15 ⟨b12, 3, none⟩ (.int .i64 n_Grow20) ∧ held S15 ⟨b12, 4, none⟩ (.int .i64 n_GrowBack21) ∧ held S15 ⟨b12, 5, none⟩ (s_Ins22.val) ∧ held S15 ⟨b12, 6, none⟩ (s_Outs23.val) ∧ held S15 ⟨b12, 7, none⟩ (.int .i64 n_Last24) ∧ held S15 ⟨b12, 8, none⟩ (s_Cells25.val) ∧
 ∃ s26 : Sl, held S15 ⟨b12, 6, none⟩ (s26.val) ∧
 ∃ a27 : Addr, s26.ptr = some a27 ∧ 0 ≤ x_10 ∧ x_10 < (s26.len : Int) ∧
 ∃ s28 : Sl, held S15 (Addr.add (Addr.add a27 (Int.toNat x_10 * 4)) 2) (s28.val) ∧
 Calls Try.prog fn_hollowayref15_named #[.agg #[.int .i64 n_Start17, .int .i64 n_Slots18, .int .i64 n_Backs19, .int .i64 n_Grow20, .int .i64 n_GrowBack21, s_Ins22.val, s_Outs23.val, .int .i64 n_Last24, s_Cells25.val], s28.val, .int .i64 at_11] w14 fun e29 w30 => ∃ b31 : Bool, e29 = .returned (.bool b31) ∧
 S15 w30 ∧
 brB b31
 (∃ n_Start32 : Int, ∃ n_Slots33 : Int, ∃ n_Backs34 : Int, ∃ n_Grow35 : Int, ∃ n_GrowBack36 : Int, ∃ s_Ins37 : Sl, ∃ s_Outs38 : Sl, ∃ n_Last39 : Int, ∃ s_Cells40 : Sl, held S15 ⟨b12, 0, none⟩ (.int .i64 n_Start32) ∧ held S15 ⟨b12, 1, none⟩ (.int .i64 n_Slots33) ∧ held S15 ⟨b12, 2, none⟩ (.int .i64 n_Backs34) ∧ held S15 ⟨b12, 3, none⟩ (.int .i64 n_Grow35) ∧ held S15 ⟨b12, 4, none⟩ (.int .i64 n_GrowBack36) ∧ held S15 ⟨b12, 5, none⟩ (s_Ins37.val) ∧ held S15 ⟨b12, 6, none⟩ (s_Outs38.val) ∧ held S15 ⟨b12, 7, none⟩ (.int .i64 n_Last39) ∧ held S15 ⟨b12, 8, none⟩ (s_Cells40.val) ∧
 ∃ s41 : Sl, held S15 ⟨b12, 6, none⟩ (s41.val) ∧
 ∃ a42 : Addr, s41.ptr = some a42 ∧ 0 ≤ x_10 ∧ x_10 < (s41.len : Int) ∧
 ∃ s43 : Sl, held S15 (Addr.add (Addr.add a42 (Int.toNat x_10 * 4)) 3) (s43.val) ∧
 Calls Try.prog fn_hollowayref15_named #[.agg #[.int .i64 n_Start32, .int .i64 n_Slots33, .int .i64 n_Backs34, .int .i64 n_Grow35, .int .i64 n_GrowBack36, s_Ins37.val, s_Outs38.val, .int .i64 n_Last39, s_Cells40.val], s43.val, .int .i64 at_11] w30 fun e44 w45 => ∃ b46 : Bool, e44 = .returned (.bool b46) ∧
 K (.bool b46) w45)
 (K (.bool false) w30))
 (K (.bool false) w14))
 (K (.bool false) w14)
def hollowayref15_out_an : An := ⟨[], [(1, (29, .st 0 (.st 1 (.st 2 (.st 3 (.st 4 (.st 5 (.st 6 (.st 7 (.st 8 (.st 9 (.st 10 (.st 11 (.st 12 (.st 13 (.st 14 (.st 15 (.st 16 (.st 17 (.ef 18 (.st 19 (.st 20 (.st 21 (.st 22 (.st 23 (.st 24 (.st 25 (.st 26 (.st 27 (.st 28 .done)))))))))))))))))))))))))))), 1))], []⟩
theorem hollowayref15_out_lift {t__Start1 : Int} {t__Slots2 : Int} {t__Backs3 : Int} {t__Grow4 : Int} {t__GrowBack5 : Int} {t__Ins6 : Sl} {t__Outs7 : Sl} {t__Last8 : Int} {t__Cells9 : Sl} {x_10 : Int} {at_11 : Int} {w : World} {K : Value → World → Prop} (h : hollowayref15_out_sh t__Start1 t__Slots2 t__Backs3 t__Grow4 t__GrowBack5 t__Ins6 t__Outs7 t__Last8 t__Cells9 x_10 at_11 w K) : Calls Try.prog fn_hollowayref15_out #[.agg #[.int .i64 t__Start1, .int .i64 t__Slots2, .int .i64 t__Backs3, .int .i64 t__Grow4, .int .i64 t__GrowBack5, t__Ins6.val, t__Outs7.val, .int .i64 t__Last8, t__Cells9.val], .int .i64 x_10, .int .i64 at_11] w fun e w' => ∃ v, e = .returned v ∧ K v w' :=
   lift_calls (A := hollowayref15_out_an) (c := bodyOf Try.f38) (args := [.agg #[.int .i64 t__Start1, .int .i64 t__Slots2, .int .i64 t__Backs3, .int .i64 t__Grow4, .int .i64 t__GrowBack5, t__Ins6.val, t__Outs7.val, .int .i64 t__Last8, t__Cells9.val], .int .i64 x_10, .int .i64 at_11]) orc orc_wide Try.func38 (by kernel_rfl) (by kernel_rfl) (Eq.mp (by kernel_rfl : hollowayref15_out_sh t__Start1 t__Slots2 t__Backs3 t__Grow4 t__GrowBack5 t__Ins6 t__Outs7 t__Last8 t__Cells9 x_10 at_11 w K = wpc orc Try.f38.ntmps hollowayref15_out_an (bodyOf Try.f38) (argl 0 [.agg #[.int .i64 t__Start1, .int .i64 t__Slots2, .int .i64 t__Backs3, .int .i64 t__Grow4, .int .i64 t__GrowBack5, t__Ins6.val, t__Outs7.val, .int .i64 t__Last8, t__Cells9.val], .int .i64 x_10, .int .i64 at_11]) w (retQ orc Try.f38.results.toList K)) h)

-- holloway/hollowayref15.Gives
def hollowayref15_Gives_sh (op1 : Int) (w : World) (K : Value → World → Prop) : Prop :=
 brB (op1 == (1 : Int))
 (K (.bool true) w)
 (brB (op1 == (2 : Int))
 (K (.bool true) w)
 (brB (op1 == (3 : Int))
 (K (.bool true) w)
 (brB (op1 == (4 : Int))
 (K (.bool true) w)
 (brB (op1 == (5 : Int))
 (K (.bool true) w)
 (K (.bool (op1 == (12 : Int))) w)))))
def hollowayref15_Gives_an : An := ⟨[], [], []⟩
theorem hollowayref15_Gives_lift {op1 : Int} {w : World} {K : Value → World → Prop} (h : hollowayref15_Gives_sh op1 w K) : Calls Try.prog fn_hollowayref15_Gives #[.int .i64 op1] w fun e w' => ∃ v, e = .returned v ∧ K v w' :=
   lift_calls (A := hollowayref15_Gives_an) (c := bodyOf Try.f59) (args := [.int .i64 op1]) orc orc_wide Try.func59 (by kernel_rfl) (by kernel_rfl) (Eq.mp (by kernel_rfl : hollowayref15_Gives_sh op1 w K = wpc orc Try.f59.ntmps hollowayref15_Gives_an (bodyOf Try.f59) (argl 0 [.int .i64 op1]) w (retQ orc Try.f59.results.toList K)) h)

end Go.Proofs.Ytkjpmkopnkkbmaa
