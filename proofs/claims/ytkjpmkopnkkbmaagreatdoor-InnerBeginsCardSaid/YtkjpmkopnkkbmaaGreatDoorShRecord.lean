/- Functions of Record, read without their frames; that each is enough. Printed by a program of mine (wip/lift/gen.py). -/
import Derived.Test.YtkjpmkopnkkbmaaGreatDoorOrc
set_option maxRecDepth 100000
namespace Go.Proofs.YtkjpmkopnkkbmaaGreatDoor
open Go.RowKit

-- holloway/record.Loop
def record_Loop_j1 (J8 : World → Prop) (b18 : Nat) (b57 : Nat) (b59 : Nat) (b12 : Nat) (I1 : World → Prop) (μ1 : World → Nat) (w21 : World) (b68 : Bool) (w67 : World) (_K : Value → World → Prop) : Prop :=
 brB b68
 (J8  w67)
 (∃ s79 : Sl, w67.cell? ⟨b18, 3, none⟩ = some (s79.val) ∧
 ∃ n_Ip80 : Int, ∃ n_Cell81 : Int, ∃ n_Arg82 : Int, ∃ n_Next83 : Int, w67.cell? ⟨b57, 0, none⟩ = some (.int .i64 n_Ip80) ∧ w67.cell? ⟨b57, 1, none⟩ = some (.int .i64 n_Cell81) ∧ w67.cell? ⟨b57, 2, none⟩ = some (.int .i64 n_Arg82) ∧ w67.cell? ⟨b57, 3, none⟩ = some (.int .i64 n_Next83) ∧
 ∀ (b84 : Nat) (w85 : World), b84 = w67.heap.size → w85 = World.alloc w67 (.cells #[.int .i64 n_Ip80, .int .i64 n_Cell81, .int .i64 n_Arg82, .int .i64 n_Next83] T_api_Seen) →
 ∃ s86 : Sl, ∃ w87 : World, (Builtin.append_ #[T_sl_api_Seen, T_sl_api_Seen] T_sl_api_Seen #[s79.val, .slice (some ⟨b84, 0, none⟩) 1 1]).run Tryz.prog w85 = .ok (s86.val) w87 ∧
 wrOk w87 ⟨b18, 3, none⟩ 1 ∧ ∀ w88 : World, w88 = stW w87 ⟨b18, 3, none⟩ 0 [s86.val] →
 ∃ n_Ip89 : Int, ∃ n_Handler90 : Int, ∃ s_Stack91 : Sl, ∃ s_Back92 : Sl, ∃ s_Mem93 : Sl, ∃ t_Out94 : ByteArray, ∃ t_In95 : ByteArray, ∃ n_Read96 : Int, ∃ n_Status97 : Int, ∃ n_Code98 : Int, w88.cell? ⟨b59, 0, none⟩ = some (.int .i64 n_Ip89) ∧ w88.cell? ⟨b59, 1, none⟩ = some (.int .i64 n_Handler90) ∧ w88.cell? ⟨b59, 2, none⟩ = some (s_Stack91.val) ∧ w88.cell? ⟨b59, 3, none⟩ = some (s_Back92.val) ∧ w88.cell? ⟨b59, 4, none⟩ = some (s_Mem93.val) ∧ w88.cell? ⟨b59, 5, none⟩ = some (.string t_Out94) ∧ w88.cell? ⟨b59, 6, none⟩ = some (.string t_In95) ∧ w88.cell? ⟨b59, 7, none⟩ = some (.int .i64 n_Read96) ∧ w88.cell? ⟨b59, 8, none⟩ = some (.int .i64 n_Status97) ∧ w88.cell? ⟨b59, 9, none⟩ = some (.int .i64 n_Code98) ∧
 wrOk w88 ⟨b12, 0, none⟩ 10 ∧ ∀ w99 : World, w99 = stW w88 ⟨b12, 0, none⟩ 0 [.int .i64 n_Ip89, .int .i64 n_Handler90, s_Stack91.val, s_Back92.val, s_Mem93.val, .string t_Out94, .string t_In95, .int .i64 n_Read96, .int .i64 n_Status97, .int .i64 n_Code98] →
 I1  w99 ∧ μ1  w99 < μ1  w21)
def record_Loop_sh (s__Ip1 : Int) (s__Handler2 : Int) (s__Stack3 : Sl) (s__Back4 : Sl) (s__Mem5 : Sl) (s__Out6 : ByteArray) (s__In7 : ByteArray) (s__Read8 : Int) (s__Status9 : Int) (s__Code10 : Int) (most11 : Int) (w : World) (K : Value → World → Prop) : Prop :=
 ∀ (b12 : Nat) (w13 : World), b12 = w.heap.size → w13 = World.alloc w (.cells #[.int .i64 s__Ip1, .int .i64 s__Handler2, s__Stack3.val, s__Back4.val, s__Mem5.val, .string s__Out6, .string s__In7, .int .i64 s__Read8, .int .i64 s__Status9, .int .i64 s__Code10] T_api_State) →
 ∀ (b14 : Nat) (w15 : World), b14 = w13.heap.size → w15 = World.alloc w13 (.cells #[.int .i64 (0 : Int), .int .i64 (0 : Int), .bool false, .slice none 0 0] T_api_Recording) →
 ∃ n16 : Int, w15.cell? ⟨b12, 0, none⟩ = some (.int .i64 n16) ∧
 ∃ n17 : Int, w15.cell? ⟨b12, 0, none⟩ = some (.int .i64 n17) ∧
 ∀ (b18 : Nat) (w19 : World), b18 = w15.heap.size → w19 = World.alloc w15 (.cells #[.int .i64 (0 : Int), .int .i64 (0 : Int), .bool false, .slice none 0 0] T_api_Recording) →
 wrOk w19 ⟨b18, 0, none⟩ 4 ∧ ∀ w20 : World, w20 = stW w19 ⟨b18, 0, none⟩ 0 [.int .i64 n16, .int .i64 n17, .bool false, .slice none 0 0] →
 ∃ (I1 : World → Prop) (μ1 : World → Nat), I1  w20 ∧ ∀ (w21 : World), I1  w21 →
 ∃ J4 : World → Prop, (∀ (w27 : World), J4  w27 →
 ∃ n28 : Int, w27.cell? ⟨b12, 0, none⟩ = some (.int .i64 n28) ∧
 wrOk w27 ⟨b18, 1, none⟩ 1 ∧ ∀ w29 : World, w29 = stW w27 ⟨b18, 1, none⟩ 0 [.int .i64 n28] →
 ∃ n_Ip30 : Int, ∃ n_Handler31 : Int, ∃ s_Stack32 : Sl, ∃ s_Back33 : Sl, ∃ s_Mem34 : Sl, ∃ t_Out35 : ByteArray, ∃ t_In36 : ByteArray, ∃ n_Read37 : Int, ∃ n_Status38 : Int, ∃ n_Code39 : Int, w29.cell? ⟨b12, 0, none⟩ = some (.int .i64 n_Ip30) ∧ w29.cell? ⟨b12, 1, none⟩ = some (.int .i64 n_Handler31) ∧ w29.cell? ⟨b12, 2, none⟩ = some (s_Stack32.val) ∧ w29.cell? ⟨b12, 3, none⟩ = some (s_Back33.val) ∧ w29.cell? ⟨b12, 4, none⟩ = some (s_Mem34.val) ∧ w29.cell? ⟨b12, 5, none⟩ = some (.string t_Out35) ∧ w29.cell? ⟨b12, 6, none⟩ = some (.string t_In36) ∧ w29.cell? ⟨b12, 7, none⟩ = some (.int .i64 n_Read37) ∧ w29.cell? ⟨b12, 8, none⟩ = some (.int .i64 n_Status38) ∧ w29.cell? ⟨b12, 9, none⟩ = some (.int .i64 n_Code39) ∧
 Calls Tryz.prog fn_record_next #[.agg #[.int .i64 n_Ip30, .int .i64 n_Handler31, s_Stack32.val, s_Back33.val, s_Mem34.val, .string t_Out35, .string t_In36, .int .i64 n_Read37, .int .i64 n_Status38, .int .i64 n_Code39]] w29 fun e40 w41 => ∃ n_Ip42 : Int, ∃ n_Cell43 : Int, ∃ n_Arg44 : Int, ∃ n_Next45 : Int, ∃ n_Ip46 : Int, ∃ n_Handler47 : Int, ∃ s_Stack48 : Sl, ∃ s_Back49 : Sl, ∃ s_Mem50 : Sl, ∃ t_Out51 : ByteArray, ∃ t_In52 : ByteArray, ∃ n_Read53 : Int, ∃ n_Status54 : Int, ∃ n_Code55 : Int, ∃ b56 : Bool, e40 = .returned (.tuple #[.agg #[.int .i64 n_Ip42, .int .i64 n_Cell43, .int .i64 n_Arg44, .int .i64 n_Next45], .agg #[.int .i64 n_Ip46, .int .i64 n_Handler47, s_Stack48.val, s_Back49.val, s_Mem50.val, .string t_Out51, .string t_In52, .int .i64 n_Read53, .int .i64 n_Status54, .int .i64 n_Code55], .bool b56]) ∧
 ∀ (b57 : Nat) (w58 : World), b57 = w41.heap.size → w58 = World.alloc w41 (.cells #[.int .i64 (0 : Int), .int .i64 (0 : Int), .int .i64 (0 : Int), .int .i64 (0 : Int)] T_api_Seen) →
 ∀ (b59 : Nat) (w60 : World), b59 = w58.heap.size → w60 = World.alloc w58 (.cells #[.int .i64 (0 : Int), .int .i64 (0 : Int), .slice none 0 0, .slice none 0 0, .slice none 0 0, .string (bs []), .string (bs []), .int .i64 (0 : Int), .int .i64 (0 : Int), .int .i64 (0 : Int)] T_api_State) →
 wrOk w60 ⟨b57, 0, none⟩ 4 ∧ ∀ w61 : World, w61 = stW w60 ⟨b57, 0, none⟩ 0 [.int .i64 n_Ip42, .int .i64 n_Cell43, .int .i64 n_Arg44, .int .i64 n_Next45] →
 wrOk w61 ⟨b59, 0, none⟩ 10 ∧ ∀ w62 : World, w62 = stW w61 ⟨b59, 0, none⟩ 0 [.int .i64 n_Ip46, .int .i64 n_Handler47, s_Stack48.val, s_Back49.val, s_Mem50.val, .string t_Out51, .string t_In52, .int .i64 n_Read53, .int .i64 n_Status54, .int .i64 n_Code55] →
 ∃ J8 : World → Prop, (∀ (w69 : World), J8  w69 →
 ∃ n_Start70 : Int, ∃ n_End71 : Int, ∃ b_Loop72 : Bool, ∃ s_Steps73 : Sl, w69.cell? ⟨b18, 0, none⟩ = some (.int .i64 n_Start70) ∧ w69.cell? ⟨b18, 1, none⟩ = some (.int .i64 n_End71) ∧ w69.cell? ⟨b18, 2, none⟩ = some (.bool b_Loop72) ∧ w69.cell? ⟨b18, 3, none⟩ = some (s_Steps73.val) ∧
 wrOk w69 ⟨b14, 0, none⟩ 4 ∧ ∀ w74 : World, w74 = stW w69 ⟨b14, 0, none⟩ 0 [.int .i64 n_Start70, .int .i64 n_End71, .bool b_Loop72, s_Steps73.val] →
 ∃ r_Start75 : Int, ∃ r_End76 : Int, ∃ r_Loop77 : Bool, ∃ r_Steps78 : Sl, w74.cell? ⟨b14, 0, none⟩ = some (.int .i64 r_Start75) ∧ w74.cell? ⟨b14, 1, none⟩ = some (.int .i64 r_End76) ∧ w74.cell? ⟨b14, 2, none⟩ = some (.bool r_Loop77) ∧ w74.cell? ⟨b14, 3, none⟩ = some (r_Steps78.val) ∧
 K (.agg #[.int .i64 r_Start75, .int .i64 r_End76, .bool r_Loop77, r_Steps78.val]) w74) ∧
 ∃ s63 : Sl, w62.cell? ⟨b18, 3, none⟩ = some (s63.val) ∧
 brB (decide ((s63.len : Int) ≥ (imin (imax most11 (0 : Int)) (120 : Int))))
 (J8  w62)
 (∃ b64 : Bool, w62.cell? ⟨b18, 2, none⟩ = some (.bool b64) ∧
 brB b64
 (record_Loop_j1 J8 b18 b57 b59 b12 I1 (μ1) w21 b64 w62 K)
 (record_Loop_j1 J8 b18 b57 b59 b12 I1 (μ1) w21 (!b56) w62 K))) ∧
 ∃ s22 : Sl, w21.cell? ⟨b18, 3, none⟩ = some (s22.val) ∧
 brB (decide ((s22.len : Int) > (0 : Int)))
 (∃ n23 : Int, w21.cell? ⟨b12, 0, none⟩ = some (.int .i64 n23) ∧
 ∃ n24 : Int, w21.cell? ⟨b18, 0, none⟩ = some (.int .i64 n24) ∧
 wrOk w21 ⟨b18, 2, none⟩ 1 ∧ ∀ w25 : World, w25 = stW w21 ⟨b18, 2, none⟩ 0 [.bool (n23 == n24)] →
 J4  w25)
 (wrOk w21 ⟨b18, 2, none⟩ 1 ∧ ∀ w26 : World, w26 = stW w21 ⟨b18, 2, none⟩ 0 [.bool false] →
 J4  w26)
def record_Loop_an : An := ⟨[(3, [])], [], [(9, []), (4, [])]⟩
theorem record_Loop_lift {s__Ip1 : Int} {s__Handler2 : Int} {s__Stack3 : Sl} {s__Back4 : Sl} {s__Mem5 : Sl} {s__Out6 : ByteArray} {s__In7 : ByteArray} {s__Read8 : Int} {s__Status9 : Int} {s__Code10 : Int} {most11 : Int} {w : World} {K : Value → World → Prop} (h : record_Loop_sh s__Ip1 s__Handler2 s__Stack3 s__Back4 s__Mem5 s__Out6 s__In7 s__Read8 s__Status9 s__Code10 most11 w K) : Calls Tryz.prog fn_record_Loop #[.agg #[.int .i64 s__Ip1, .int .i64 s__Handler2, s__Stack3.val, s__Back4.val, s__Mem5.val, .string s__Out6, .string s__In7, .int .i64 s__Read8, .int .i64 s__Status9, .int .i64 s__Code10], .int .i64 most11] w fun e w' => ∃ v, e = .returned v ∧ K v w' :=
   lift_calls (A := record_Loop_an) (c := bodyOf Tryz.f29) (args := [.agg #[.int .i64 s__Ip1, .int .i64 s__Handler2, s__Stack3.val, s__Back4.val, s__Mem5.val, .string s__Out6, .string s__In7, .int .i64 s__Read8, .int .i64 s__Status9, .int .i64 s__Code10], .int .i64 most11]) orc orc_wide Tryz.func29 (by kernel_rfl) (by kernel_rfl) (Eq.mp (by kernel_rfl : record_Loop_sh s__Ip1 s__Handler2 s__Stack3 s__Back4 s__Mem5 s__Out6 s__In7 s__Read8 s__Status9 s__Code10 most11 w K = wpc orc Tryz.f29.ntmps record_Loop_an (bodyOf Tryz.f29) (argl 0 [.agg #[.int .i64 s__Ip1, .int .i64 s__Handler2, s__Stack3.val, s__Back4.val, s__Mem5.val, .string s__Out6, .string s__In7, .int .i64 s__Read8, .int .i64 s__Status9, .int .i64 s__Code10], .int .i64 most11]) w (retQ orc Tryz.f29.results.toList K)) h)

-- holloway/record.Cells
def record_Cells_sh (r__Start1 : Int) (r__End2 : Int) (r__Loop3 : Bool) (r__Steps4 : Sl) (w : World) (K : Value → World → Prop) : Prop :=
 ∀ (b5 : Nat) (w6 : World), b5 = w.heap.size → w6 = World.alloc w (.cells #[.int .i64 r__Start1, .int .i64 r__End2, .bool r__Loop3, r__Steps4.val] T_api_Recording) →
 ∃ s7 : Sl, w6.cell? ⟨b5, 3, none⟩ = some (s7.val) ∧
 ∃ (I1 : Sl → Int → World → Prop) (μ1 : Sl → Int → World → Nat), I1 (⟨none, 0, 0⟩ : Sl) (0 : Int) w6 ∧ ∀ (out18 : Sl) (n9 : Int) (w8 : World), I1 out18 n9 w8 →
 brB (decide (n9 < (s7.len : Int)))
 (∃ J7 : Sl → World → Prop, (∀ (out39 : Sl) (w33 : World), J7 out39 w33 →
 I1 out39 (wr (n9 + (1 : Int))) w33 ∧ μ1 out39 (wr (n9 + (1 : Int))) w33 < μ1 out18 n9 w8) ∧
 ∃ a10 : Addr, s7.ptr = some a10 ∧ 0 ≤ n9 ∧ n9 < (s7.len : Int) ∧
 ∃ n_Ip11 : Int, ∃ n_Cell12 : Int, ∃ n_Arg13 : Int, ∃ n_Next14 : Int, w8.cell? (Addr.add a10 (Int.toNat n9 * 4)) = some (.int .i64 n_Ip11) ∧ w8.cell? (Addr.add (Addr.add a10 (Int.toNat n9 * 4)) 1) = some (.int .i64 n_Cell12) ∧ w8.cell? (Addr.add (Addr.add a10 (Int.toNat n9 * 4)) 2) = some (.int .i64 n_Arg13) ∧ w8.cell? (Addr.add (Addr.add a10 (Int.toNat n9 * 4)) 3) = some (.int .i64 n_Next14) ∧
 ∀ (b15 : Nat) (w16 : World), b15 = w8.heap.size → w16 = World.alloc w8 (.cells #[.int .i64 (0 : Int), .int .i64 (0 : Int), .int .i64 (0 : Int), .int .i64 (0 : Int)] T_api_Seen) →
 wrOk w16 ⟨b15, 0, none⟩ 4 ∧ ∀ w17 : World, w17 = stW w16 ⟨b15, 0, none⟩ 0 [.int .i64 n_Ip11, .int .i64 n_Cell12, .int .i64 n_Arg13, .int .i64 n_Next14] →
 ∃ n19 : Int, w17.cell? ⟨b15, 0, none⟩ = some (.int .i64 n19) ∧
 ∀ (b20 : Nat) (w21 : World), b20 = w17.heap.size → w21 = World.alloc w17 (.cells #[.int .i64 n19] T_int) →
 ∃ s22 : Sl, ∃ w23 : World, (Builtin.append_ #[T_sl_int, T_sl_int] T_sl_int #[out18.val, .slice (some ⟨b20, 0, none⟩) 1 1]).run Tryz.prog w21 = .ok (s22.val) w23 ∧
 ∃ n24 : Int, w23.cell? ⟨b15, 1, none⟩ = some (.int .i64 n24) ∧
 Calls Tryz.prog fn_record_arg #[.int .i64 n24] w23 fun e25 w26 => ∃ b27 : Bool, e25 = .returned (.bool b27) ∧
 brB b27
 (∃ n28 : Int, w26.cell? ⟨b15, 0, none⟩ = some (.int .i64 n28) ∧
 ∀ (b29 : Nat) (w30 : World), b29 = w26.heap.size → w30 = World.alloc w26 (.cells #[.int .i64 (wr (n28 + (1 : Int)))] T_int) →
 ∃ s31 : Sl, ∃ w32 : World, (Builtin.append_ #[T_sl_int, T_sl_int] T_sl_int #[s22.val, .slice (some ⟨b29, 0, none⟩) 1 1]).run Tryz.prog w30 = .ok (s31.val) w32 ∧
 J7 s31 w32)
 (J7 s22 w26))
 (Calls Tryz.prog fn_slices_Sort_sl_int_int #[out18.val] w8 fun e34 w35 => e34 = .returned (.tuple #[]) ∧
 Calls Tryz.prog fn_slices_Compact_sl_int_int #[out18.val] w35 fun e36 w37 => ∃ s38 : Sl, e36 = .returned (s38.val) ∧
 K (s38.val) w37)
def record_Cells_an : An := ⟨[(3, [(3, .sl), (9, .int .i64)])], [], [(8, [(3, .sl)])]⟩
theorem record_Cells_lift {r__Start1 : Int} {r__End2 : Int} {r__Loop3 : Bool} {r__Steps4 : Sl} {w : World} {K : Value → World → Prop} (h : record_Cells_sh r__Start1 r__End2 r__Loop3 r__Steps4 w K) : Calls Tryz.prog fn_record_Cells #[.agg #[.int .i64 r__Start1, .int .i64 r__End2, .bool r__Loop3, r__Steps4.val]] w fun e w' => ∃ v, e = .returned v ∧ K v w' :=
   lift_calls (A := record_Cells_an) (c := bodyOf Tryz.f30) (args := [.agg #[.int .i64 r__Start1, .int .i64 r__End2, .bool r__Loop3, r__Steps4.val]]) orc orc_wide Tryz.func30 (by kernel_rfl) (by kernel_rfl) (Eq.mp (by kernel_rfl : record_Cells_sh r__Start1 r__End2 r__Loop3 r__Steps4 w K = wpc orc Tryz.f30.ntmps record_Cells_an (bodyOf Tryz.f30) (argl 0 [.agg #[.int .i64 r__Start1, .int .i64 r__End2, .bool r__Loop3, r__Steps4.val]]) w (retQ orc Tryz.f30.results.toList K)) h)

-- holloway/record.Right
def record_Right_sh (r__Start1 : Int) (r__End2 : Int) (r__Loop3 : Bool) (r__Steps4 : Sl) (w : World) (K : Value → World → Prop) : Prop :=
 ∀ (b5 : Nat) (w6 : World), b5 = w.heap.size → w6 = World.alloc w (.cells #[.int .i64 r__Start1, .int .i64 r__End2, .bool r__Loop3, r__Steps4.val] T_api_Recording) →
 ∃ n7 : Int, w6.cell? ⟨b5, 0, none⟩ = some (.int .i64 n7) ∧
 ∃ J4 : Bool → World → Prop, (∀ (b14 : Bool) (w13 : World), J4 b14 w13 →
 brB b14
 (K (.bool false) w13)
 (∃ s15 : Sl, w13.cell? ⟨b5, 3, none⟩ = some (s15.val) ∧
 ∃ (I1 : Int → Int → World → Prop) (μ1 : Int → Int → World → Nat), I1 n7 (0 : Int) w13 ∧ ∀ (at34 : Int) (n17 : Int) (w16 : World), I1 at34 n17 w16 →
 brB (decide (n17 < (s15.len : Int)))
 (∃ a18 : Addr, s15.ptr = some a18 ∧ 0 ≤ n17 ∧ n17 < (s15.len : Int) ∧
 ∃ n_Ip19 : Int, ∃ n_Cell20 : Int, ∃ n_Arg21 : Int, ∃ n_Next22 : Int, w16.cell? (Addr.add a18 (Int.toNat n17 * 4)) = some (.int .i64 n_Ip19) ∧ w16.cell? (Addr.add (Addr.add a18 (Int.toNat n17 * 4)) 1) = some (.int .i64 n_Cell20) ∧ w16.cell? (Addr.add (Addr.add a18 (Int.toNat n17 * 4)) 2) = some (.int .i64 n_Arg21) ∧ w16.cell? (Addr.add (Addr.add a18 (Int.toNat n17 * 4)) 3) = some (.int .i64 n_Next22) ∧
 ∀ (b23 : Nat) (w24 : World), b23 = w16.heap.size → w24 = World.alloc w16 (.cells #[.int .i64 (0 : Int), .int .i64 (0 : Int), .int .i64 (0 : Int), .int .i64 (0 : Int)] T_api_Seen) →
 wrOk w24 ⟨b23, 0, none⟩ 4 ∧ ∀ w25 : World, w25 = stW w24 ⟨b23, 0, none⟩ 0 [.int .i64 n_Ip19, .int .i64 n_Cell20, .int .i64 n_Arg21, .int .i64 n_Next22] →
 ∃ J13 : Bool → World → Prop, (∀ (b38 : Bool) (w37 : World), J13 b38 w37 →
 brB b38
 (K (.bool false) w37)
 (∃ n39 : Int, w37.cell? ⟨b23, 3, none⟩ = some (.int .i64 n39) ∧
 I1 n39 (wr (n17 + (1 : Int))) w37 ∧ μ1 n39 (wr (n17 + (1 : Int))) w37 < μ1 at34 n17 w16)) ∧
 ∃ n_Ip26 : Int, ∃ n_Cell27 : Int, ∃ n_Arg28 : Int, ∃ n_Next29 : Int, w25.cell? ⟨b23, 0, none⟩ = some (.int .i64 n_Ip26) ∧ w25.cell? ⟨b23, 1, none⟩ = some (.int .i64 n_Cell27) ∧ w25.cell? ⟨b23, 2, none⟩ = some (.int .i64 n_Arg28) ∧ w25.cell? ⟨b23, 3, none⟩ = some (.int .i64 n_Next29) ∧
 Calls Tryz.prog fn_record_single #[.agg #[.int .i64 n_Ip26, .int .i64 n_Cell27, .int .i64 n_Arg28, .int .i64 n_Next29]] w25 fun e30 w31 => ∃ b32 : Bool, e30 = .returned (.bool b32) ∧
 brB (!b32)
 (J13 true w31)
 (∃ n33 : Int, w31.cell? ⟨b23, 0, none⟩ = some (.int .i64 n33) ∧
 brB (n33 != at34)
 (J13 true w31)
 (brB (decide (n17 > (0 : Int)))
 (∃ n35 : Int, w31.cell? ⟨b23, 0, none⟩ = some (.int .i64 n35) ∧
 ∃ n36 : Int, w31.cell? ⟨b5, 0, none⟩ = some (.int .i64 n36) ∧
 J13 (n35 == n36) w31)
 (J13 false w31))))
 (∃ n40 : Int, w16.cell? ⟨b5, 1, none⟩ = some (.int .i64 n40) ∧
 K (.bool (at34 == n40)) w16))) ∧
 ∃ s8 : Sl, w6.cell? ⟨b5, 3, none⟩ = some (s8.val) ∧
 brB (decide ((s8.len : Int) > (120 : Int)))
 (J4 true w6)
 (∃ b9 : Bool, w6.cell? ⟨b5, 2, none⟩ = some (.bool b9) ∧
 ∃ s10 : Sl, w6.cell? ⟨b5, 3, none⟩ = some (s10.val) ∧
 brB (decide ((s10.len : Int) > (0 : Int)))
 (∃ n11 : Int, w6.cell? ⟨b5, 1, none⟩ = some (.int .i64 n11) ∧
 ∃ n12 : Int, w6.cell? ⟨b5, 0, none⟩ = some (.int .i64 n12) ∧
 J4 (!(b9 == (n11 == n12))) w6)
 (J4 (!(b9 == false)) w6))
def record_Right_an : An := ⟨[(5, [(3, .int .i64), (31, .int .i64)])], [], [(3, [(27, .bool)]), (8, [(55, .bool)])]⟩
theorem record_Right_lift {r__Start1 : Int} {r__End2 : Int} {r__Loop3 : Bool} {r__Steps4 : Sl} {w : World} {K : Value → World → Prop} (h : record_Right_sh r__Start1 r__End2 r__Loop3 r__Steps4 w K) : Calls Tryz.prog fn_record_Right #[.agg #[.int .i64 r__Start1, .int .i64 r__End2, .bool r__Loop3, r__Steps4.val]] w fun e w' => ∃ v, e = .returned v ∧ K v w' :=
   lift_calls (A := record_Right_an) (c := bodyOf Tryz.f36) (args := [.agg #[.int .i64 r__Start1, .int .i64 r__End2, .bool r__Loop3, r__Steps4.val]]) orc orc_wide Tryz.func36 (by kernel_rfl) (by kernel_rfl) (Eq.mp (by kernel_rfl : record_Right_sh r__Start1 r__End2 r__Loop3 r__Steps4 w K = wpc orc Tryz.f36.ntmps record_Right_an (bodyOf Tryz.f36) (argl 0 [.agg #[.int .i64 r__Start1, .int .i64 r__End2, .bool r__Loop3, r__Steps4.val]]) w (retQ orc Tryz.f36.results.toList K)) h)

-- holloway/record.After
def record_After_sh (s__Ip1 : Int) (s__Handler2 : Int) (s__Stack3 : Sl) (s__Back4 : Sl) (s__Mem5 : Sl) (s__Out6 : ByteArray) (s__In7 : ByteArray) (s__Read8 : Int) (s__Status9 : Int) (s__Code10 : Int) (r__Start11 : Int) (r__End12 : Int) (r__Loop13 : Bool) (r__Steps14 : Sl) (w : World) (K : Value → World → Prop) : Prop :=
 ∀ (b15 : Nat) (w16 : World), b15 = w.heap.size → w16 = World.alloc w (.cells #[.int .i64 s__Ip1, .int .i64 s__Handler2, s__Stack3.val, s__Back4.val, s__Mem5.val, .string s__Out6, .string s__In7, .int .i64 s__Read8, .int .i64 s__Status9, .int .i64 s__Code10] T_api_State) →
 ∀ (b17 : Nat) (w18 : World), b17 = w16.heap.size → w18 = World.alloc w16 (.cells #[.int .i64 r__Start11, .int .i64 r__End12, .bool r__Loop13, r__Steps14.val] T_api_Recording) →
 ∀ (b19 : Nat) (w20 : World), b19 = w18.heap.size → w20 = World.alloc w18 (.cells #[.int .i64 (0 : Int), .int .i64 (0 : Int), .slice none 0 0, .slice none 0 0, .slice none 0 0, .string (bs []), .string (bs []), .int .i64 (0 : Int), .int .i64 (0 : Int), .int .i64 (0 : Int)] T_api_State) →
 ∃ n_Ip21 : Int, ∃ n_Handler22 : Int, ∃ s_Stack23 : Sl, ∃ s_Back24 : Sl, ∃ s_Mem25 : Sl, ∃ t_Out26 : ByteArray, ∃ t_In27 : ByteArray, ∃ n_Read28 : Int, ∃ n_Status29 : Int, ∃ n_Code30 : Int, w20.cell? ⟨b15, 0, none⟩ = some (.int .i64 n_Ip21) ∧ w20.cell? ⟨b15, 1, none⟩ = some (.int .i64 n_Handler22) ∧ w20.cell? ⟨b15, 2, none⟩ = some (s_Stack23.val) ∧ w20.cell? ⟨b15, 3, none⟩ = some (s_Back24.val) ∧ w20.cell? ⟨b15, 4, none⟩ = some (s_Mem25.val) ∧ w20.cell? ⟨b15, 5, none⟩ = some (.string t_Out26) ∧ w20.cell? ⟨b15, 6, none⟩ = some (.string t_In27) ∧ w20.cell? ⟨b15, 7, none⟩ = some (.int .i64 n_Read28) ∧ w20.cell? ⟨b15, 8, none⟩ = some (.int .i64 n_Status29) ∧ w20.cell? ⟨b15, 9, none⟩ = some (.int .i64 n_Code30) ∧
 ∃ s31 : Sl, w20.cell? ⟨b17, 3, none⟩ = some (s31.val) ∧
 Calls Tryz.prog fn_inner_Run #[.agg #[.int .i64 n_Ip21, .int .i64 n_Handler22, s_Stack23.val, s_Back24.val, s_Mem25.val, .string t_Out26, .string t_In27, .int .i64 n_Read28, .int .i64 n_Status29, .int .i64 n_Code30], .int .i64 (s31.len : Int)] w20 fun e32 w33 => ∃ n_Ip34 : Int, ∃ n_Handler35 : Int, ∃ s_Stack36 : Sl, ∃ s_Back37 : Sl, ∃ s_Mem38 : Sl, ∃ t_Out39 : ByteArray, ∃ t_In40 : ByteArray, ∃ n_Read41 : Int, ∃ n_Status42 : Int, ∃ n_Code43 : Int, ∃ n44 : Int, e32 = .returned (.tuple #[.agg #[.int .i64 n_Ip34, .int .i64 n_Handler35, s_Stack36.val, s_Back37.val, s_Mem38.val, .string t_Out39, .string t_In40, .int .i64 n_Read41, .int .i64 n_Status42, .int .i64 n_Code43], .int .i64 n44]) ∧
 ∀ (b45 : Nat) (w46 : World), b45 = w33.heap.size → w46 = World.alloc w33 (.cells #[.int .i64 (0 : Int), .int .i64 (0 : Int), .slice none 0 0, .slice none 0 0, .slice none 0 0, .string (bs []), .string (bs []), .int .i64 (0 : Int), .int .i64 (0 : Int), .int .i64 (0 : Int)] T_api_State) →
 wrOk w46 ⟨b45, 0, none⟩ 10 ∧ ∀ w47 : World, w47 = stW w46 ⟨b45, 0, none⟩ 0 [.int .i64 n_Ip34, .int .i64 n_Handler35, s_Stack36.val, s_Back37.val, s_Mem38.val, .string t_Out39, .string t_In40, .int .i64 n_Read41, .int .i64 n_Status42, .int .i64 n_Code43] →
 ∃ n_Ip48 : Int, ∃ n_Handler49 : Int, ∃ s_Stack50 : Sl, ∃ s_Back51 : Sl, ∃ s_Mem52 : Sl, ∃ t_Out53 : ByteArray, ∃ t_In54 : ByteArray, ∃ n_Read55 : Int, ∃ n_Status56 : Int, ∃ n_Code57 : Int, w47.cell? ⟨b45, 0, none⟩ = some (.int .i64 n_Ip48) ∧ w47.cell? ⟨b45, 1, none⟩ = some (.int .i64 n_Handler49) ∧ w47.cell? ⟨b45, 2, none⟩ = some (s_Stack50.val) ∧ w47.cell? ⟨b45, 3, none⟩ = some (s_Back51.val) ∧ w47.cell? ⟨b45, 4, none⟩ = some (s_Mem52.val) ∧ w47.cell? ⟨b45, 5, none⟩ = some (.string t_Out53) ∧ w47.cell? ⟨b45, 6, none⟩ = some (.string t_In54) ∧ w47.cell? ⟨b45, 7, none⟩ = some (.int .i64 n_Read55) ∧ w47.cell? ⟨b45, 8, none⟩ = some (.int .i64 n_Status56) ∧ w47.cell? ⟨b45, 9, none⟩ = some (.int .i64 n_Code57) ∧
 wrOk w47 ⟨b19, 0, none⟩ 10 ∧ ∀ w58 : World, w58 = stW w47 ⟨b19, 0, none⟩ 0 [.int .i64 n_Ip48, .int .i64 n_Handler49, s_Stack50.val, s_Back51.val, s_Mem52.val, .string t_Out53, .string t_In54, .int .i64 n_Read55, .int .i64 n_Status56, .int .i64 n_Code57] →
 ∃ r_Ip59 : Int, ∃ r_Handler60 : Int, ∃ r_Stack61 : Sl, ∃ r_Back62 : Sl, ∃ r_Mem63 : Sl, ∃ r_Out64 : ByteArray, ∃ r_In65 : ByteArray, ∃ r_Read66 : Int, ∃ r_Status67 : Int, ∃ r_Code68 : Int, w58.cell? ⟨b19, 0, none⟩ = some (.int .i64 r_Ip59) ∧ w58.cell? ⟨b19, 1, none⟩ = some (.int .i64 r_Handler60) ∧ w58.cell? ⟨b19, 2, none⟩ = some (r_Stack61.val) ∧ w58.cell? ⟨b19, 3, none⟩ = some (r_Back62.val) ∧ w58.cell? ⟨b19, 4, none⟩ = some (r_Mem63.val) ∧ w58.cell? ⟨b19, 5, none⟩ = some (.string r_Out64) ∧ w58.cell? ⟨b19, 6, none⟩ = some (.string r_In65) ∧ w58.cell? ⟨b19, 7, none⟩ = some (.int .i64 r_Read66) ∧ w58.cell? ⟨b19, 8, none⟩ = some (.int .i64 r_Status67) ∧ w58.cell? ⟨b19, 9, none⟩ = some (.int .i64 r_Code68) ∧
 K (.agg #[.int .i64 r_Ip59, .int .i64 r_Handler60, r_Stack61.val, r_Back62.val, r_Mem63.val, .string r_Out64, .string r_In65, .int .i64 r_Read66, .int .i64 r_Status67, .int .i64 r_Code68]) w58
def record_After_an : An := ⟨[], [], []⟩
theorem record_After_lift {s__Ip1 : Int} {s__Handler2 : Int} {s__Stack3 : Sl} {s__Back4 : Sl} {s__Mem5 : Sl} {s__Out6 : ByteArray} {s__In7 : ByteArray} {s__Read8 : Int} {s__Status9 : Int} {s__Code10 : Int} {r__Start11 : Int} {r__End12 : Int} {r__Loop13 : Bool} {r__Steps14 : Sl} {w : World} {K : Value → World → Prop} (h : record_After_sh s__Ip1 s__Handler2 s__Stack3 s__Back4 s__Mem5 s__Out6 s__In7 s__Read8 s__Status9 s__Code10 r__Start11 r__End12 r__Loop13 r__Steps14 w K) : Calls Tryz.prog fn_record_After #[.agg #[.int .i64 s__Ip1, .int .i64 s__Handler2, s__Stack3.val, s__Back4.val, s__Mem5.val, .string s__Out6, .string s__In7, .int .i64 s__Read8, .int .i64 s__Status9, .int .i64 s__Code10], .agg #[.int .i64 r__Start11, .int .i64 r__End12, .bool r__Loop13, r__Steps14.val]] w fun e w' => ∃ v, e = .returned v ∧ K v w' :=
   lift_calls (A := record_After_an) (c := bodyOf Tryz.f38) (args := [.agg #[.int .i64 s__Ip1, .int .i64 s__Handler2, s__Stack3.val, s__Back4.val, s__Mem5.val, .string s__Out6, .string s__In7, .int .i64 s__Read8, .int .i64 s__Status9, .int .i64 s__Code10], .agg #[.int .i64 r__Start11, .int .i64 r__End12, .bool r__Loop13, r__Steps14.val]]) orc orc_wide Tryz.func38 (by kernel_rfl) (by kernel_rfl) (Eq.mp (by kernel_rfl : record_After_sh s__Ip1 s__Handler2 s__Stack3 s__Back4 s__Mem5 s__Out6 s__In7 s__Read8 s__Status9 s__Code10 r__Start11 r__End12 r__Loop13 r__Steps14 w K = wpc orc Tryz.f38.ntmps record_After_an (bodyOf Tryz.f38) (argl 0 [.agg #[.int .i64 s__Ip1, .int .i64 s__Handler2, s__Stack3.val, s__Back4.val, s__Mem5.val, .string s__Out6, .string s__In7, .int .i64 s__Read8, .int .i64 s__Status9, .int .i64 s__Code10], .agg #[.int .i64 r__Start11, .int .i64 r__End12, .bool r__Loop13, r__Steps14.val]]) w (retQ orc Tryz.f38.results.toList K)) h)

-- holloway/record.next
def record_next_sh (s__Ip1 : Int) (s__Handler2 : Int) (s__Stack3 : Sl) (s__Back4 : Sl) (s__Mem5 : Sl) (s__Out6 : ByteArray) (s__In7 : ByteArray) (s__Read8 : Int) (s__Status9 : Int) (s__Code10 : Int) (w : World) (K : Value → World → Prop) : Prop :=
 ∀ (b11 : Nat) (w12 : World), b11 = w.heap.size → w12 = World.alloc w (.cells #[.int .i64 s__Ip1, .int .i64 s__Handler2, s__Stack3.val, s__Back4.val, s__Mem5.val, .string s__Out6, .string s__In7, .int .i64 s__Read8, .int .i64 s__Status9, .int .i64 s__Code10] T_api_State) →
 ∀ (b13 : Nat) (w14 : World), b13 = w12.heap.size → w14 = World.alloc w12 (.cells #[.int .i64 (0 : Int), .int .i64 (0 : Int), .int .i64 (0 : Int), .int .i64 (0 : Int)] T_api_Seen) →
 ∀ (b15 : Nat) (w16 : World), b15 = w14.heap.size → w16 = World.alloc w14 (.cells #[.int .i64 (0 : Int), .int .i64 (0 : Int), .slice none 0 0, .slice none 0 0, .slice none 0 0, .string (bs []), .string (bs []), .int .i64 (0 : Int), .int .i64 (0 : Int), .int .i64 (0 : Int)] T_api_State) →
 ∃ n_Ip17 : Int, ∃ n_Handler18 : Int, ∃ s_Stack19 : Sl, ∃ s_Back20 : Sl, ∃ s_Mem21 : Sl, ∃ t_Out22 : ByteArray, ∃ t_In23 : ByteArray, ∃ n_Read24 : Int, ∃ n_Status25 : Int, ∃ n_Code26 : Int, w16.cell? ⟨b11, 0, none⟩ = some (.int .i64 n_Ip17) ∧ w16.cell? ⟨b11, 1, none⟩ = some (.int .i64 n_Handler18) ∧ w16.cell? ⟨b11, 2, none⟩ = some (s_Stack19.val) ∧ w16.cell? ⟨b11, 3, none⟩ = some (s_Back20.val) ∧ w16.cell? ⟨b11, 4, none⟩ = some (s_Mem21.val) ∧ w16.cell? ⟨b11, 5, none⟩ = some (.string t_Out22) ∧ w16.cell? ⟨b11, 6, none⟩ = some (.string t_In23) ∧ w16.cell? ⟨b11, 7, none⟩ = some (.int .i64 n_Read24) ∧ w16.cell? ⟨b11, 8, none⟩ = some (.int .i64 n_Status25) ∧ w16.cell? ⟨b11, 9, none⟩ = some (.int .i64 n_Code26) ∧
 ∃ n27 : Int, w16.cell? ⟨b11, 0, none⟩ = some (.int .i64 n27) ∧
 Calls Tryz.prog fn_record_load #[.agg #[.int .i64 n_Ip17, .int .i64 n_Handler18, s_Stack19.val, s_Back20.val, s_Mem21.val, .string t_Out22, .string t_In23, .int .i64 n_Read24, .int .i64 n_Status25, .int .i64 n_Code26], .int .i64 n27] w16 fun e28 w29 => ∃ n30 : Int, ∃ b31 : Bool, e28 = .returned (.tuple #[.int .i64 n30, .bool b31]) ∧
 ∃ J4 : Bool → World → Prop, (∀ (b37 : Bool) (w36 : World), J4 b37 w36 →
 brB b37
 (∀ w38 : World, w38 = World.drew w36 →
 ∃ S39 : World → Prop, S39 w38 ∧
 ∃ n_Ip40 : Int, ∃ n_Handler41 : Int, ∃ s_Stack42 : Sl, ∃ s_Back43 : Sl, ∃ s_Mem44 : Sl, ∃ t_Out45 : ByteArray, ∃ t_In46 : ByteArray, ∃ n_Read47 : Int, ∃ n_Status48 : Int, ∃ n_Code49 : Int, held S39 ⟨b11, 0, none⟩ (.int .i64 n_Ip40) ∧ held S39 ⟨b11, 1, none⟩ (.int .i64 n_Handler41) ∧ held S39 ⟨b11, 2, none⟩ (s_Stack42.val) ∧ held S39 ⟨b11, 3, none⟩ (s_Back43.val) ∧ held S39 ⟨b11, 4, none⟩ (s_Mem44.val) ∧ held S39 ⟨b11, 5, none⟩ (.string t_Out45) ∧ held S39 ⟨b11, 6, none⟩ (.string t_In46) ∧ held S39 ⟨b11, 7, none⟩ (.int .i64 n_Read47) ∧ held S39 ⟨b11, 8, none⟩ (.int .i64 n_Status48) ∧ held S39 ⟨b11, 9, none⟩ (.int .i64 n_Code49) ∧
 S39 w38 ∧
 wrOk w38 ⟨b13, 0, none⟩ 4 ∧ ∀ w50 : World, w50 = stW w38 ⟨b13, 0, none⟩ 0 [.int .i64 (0 : Int), .int .i64 (0 : Int), .int .i64 (0 : Int), .int .i64 (0 : Int)] →
 S39 w50 ∧
 wrOk w50 ⟨b15, 0, none⟩ 10 ∧ ∀ w51 : World, w51 = stW w50 ⟨b15, 0, none⟩ 0 [.int .i64 n_Ip40, .int .i64 n_Handler41, s_Stack42.val, s_Back43.val, s_Mem44.val, .string t_Out45, .string t_In46, .int .i64 n_Read47, .int .i64 n_Status48, .int .i64 n_Code49] →
 ∃ r_Ip52 : Int, ∃ r_Cell53 : Int, ∃ r_Arg54 : Int, ∃ r_Next55 : Int, w51.cell? ⟨b13, 0, none⟩ = some (.int .i64 r_Ip52) ∧ w51.cell? ⟨b13, 1, none⟩ = some (.int .i64 r_Cell53) ∧ w51.cell? ⟨b13, 2, none⟩ = some (.int .i64 r_Arg54) ∧ w51.cell? ⟨b13, 3, none⟩ = some (.int .i64 r_Next55) ∧
 ∃ r_Ip56 : Int, ∃ r_Handler57 : Int, ∃ r_Stack58 : Sl, ∃ r_Back59 : Sl, ∃ r_Mem60 : Sl, ∃ r_Out61 : ByteArray, ∃ r_In62 : ByteArray, ∃ r_Read63 : Int, ∃ r_Status64 : Int, ∃ r_Code65 : Int, w51.cell? ⟨b15, 0, none⟩ = some (.int .i64 r_Ip56) ∧ w51.cell? ⟨b15, 1, none⟩ = some (.int .i64 r_Handler57) ∧ w51.cell? ⟨b15, 2, none⟩ = some (r_Stack58.val) ∧ w51.cell? ⟨b15, 3, none⟩ = some (r_Back59.val) ∧ w51.cell? ⟨b15, 4, none⟩ = some (r_Mem60.val) ∧ w51.cell? ⟨b15, 5, none⟩ = some (.string r_Out61) ∧ w51.cell? ⟨b15, 6, none⟩ = some (.string r_In62) ∧ w51.cell? ⟨b15, 7, none⟩ = some (.int .i64 r_Read63) ∧ w51.cell? ⟨b15, 8, none⟩ = some (.int .i64 r_Status64) ∧ w51.cell? ⟨b15, 9, none⟩ = some (.int .i64 r_Code65) ∧
 K (.tuple #[.agg #[.int .i64 r_Ip52, .int .i64 r_Cell53, .int .i64 r_Arg54, .int .i64 r_Next55], .agg #[.int .i64 r_Ip56, .int .i64 r_Handler57, r_Stack58.val, r_Back59.val, r_Mem60.val, .string r_Out61, .string r_In62, .int .i64 r_Read63, .int .i64 r_Status64, .int .i64 r_Code65], .bool false]) w51)
 (∃ n66 : Int, w36.cell? ⟨b11, 0, none⟩ = some (.int .i64 n66) ∧
 ∀ (b67 : Nat) (w68 : World), b67 = w36.heap.size → w68 = World.alloc w36 (.cells #[.int .i64 (0 : Int), .int .i64 (0 : Int), .int .i64 (0 : Int), .int .i64 (0 : Int)] T_api_Seen) →
 wrOk w68 ⟨b67, 0, none⟩ 4 ∧ ∀ w69 : World, w69 = stW w68 ⟨b67, 0, none⟩ 0 [.int .i64 n66, .int .i64 n30, .int .i64 (0 : Int), .int .i64 (0 : Int)] →
 ∃ J7 : World → Prop, (∀ (w89 : World), J7  w89 →
 ∃ n_Ip90 : Int, ∃ n_Handler91 : Int, ∃ s_Stack92 : Sl, ∃ s_Back93 : Sl, ∃ s_Mem94 : Sl, ∃ t_Out95 : ByteArray, ∃ t_In96 : ByteArray, ∃ n_Read97 : Int, ∃ n_Status98 : Int, ∃ n_Code99 : Int, w89.cell? ⟨b11, 0, none⟩ = some (.int .i64 n_Ip90) ∧ w89.cell? ⟨b11, 1, none⟩ = some (.int .i64 n_Handler91) ∧ w89.cell? ⟨b11, 2, none⟩ = some (s_Stack92.val) ∧ w89.cell? ⟨b11, 3, none⟩ = some (s_Back93.val) ∧ w89.cell? ⟨b11, 4, none⟩ = some (s_Mem94.val) ∧ w89.cell? ⟨b11, 5, none⟩ = some (.string t_Out95) ∧ w89.cell? ⟨b11, 6, none⟩ = some (.string t_In96) ∧ w89.cell? ⟨b11, 7, none⟩ = some (.int .i64 n_Read97) ∧ w89.cell? ⟨b11, 8, none⟩ = some (.int .i64 n_Status98) ∧ w89.cell? ⟨b11, 9, none⟩ = some (.int .i64 n_Code99) ∧
 ∀ (b100 : Nat) (w101 : World), b100 = w89.heap.size → w101 = World.alloc w89 (.cells #[.int .i64 (0 : Int), .int .i64 (0 : Int), .slice none 0 0, .slice none 0 0, .slice none 0 0, .string (bs []), .string (bs []), .int .i64 (0 : Int), .int .i64 (0 : Int), .int .i64 (0 : Int)] T_api_State) →
 wrOk w101 ⟨b100, 0, none⟩ 10 ∧ ∀ w102 : World, w102 = stW w101 ⟨b100, 0, none⟩ 0 [.int .i64 n_Ip90, .int .i64 n_Handler91, s_Stack92.val, s_Back93.val, s_Mem94.val, .string t_Out95, .string t_In96, .int .i64 n_Read97, .int .i64 n_Status98, .int .i64 n_Code99] →
 wrOk w102 ⟨b100, 1, none⟩ 1 ∧ ∀ w103 : World, w103 = stW w102 ⟨b100, 1, none⟩ 0 [.int .i64 (0 : Int)] →
 ∃ n_Ip104 : Int, ∃ n_Handler105 : Int, ∃ s_Stack106 : Sl, ∃ s_Back107 : Sl, ∃ s_Mem108 : Sl, ∃ t_Out109 : ByteArray, ∃ t_In110 : ByteArray, ∃ n_Read111 : Int, ∃ n_Status112 : Int, ∃ n_Code113 : Int, w103.cell? ⟨b100, 0, none⟩ = some (.int .i64 n_Ip104) ∧ w103.cell? ⟨b100, 1, none⟩ = some (.int .i64 n_Handler105) ∧ w103.cell? ⟨b100, 2, none⟩ = some (s_Stack106.val) ∧ w103.cell? ⟨b100, 3, none⟩ = some (s_Back107.val) ∧ w103.cell? ⟨b100, 4, none⟩ = some (s_Mem108.val) ∧ w103.cell? ⟨b100, 5, none⟩ = some (.string t_Out109) ∧ w103.cell? ⟨b100, 6, none⟩ = some (.string t_In110) ∧ w103.cell? ⟨b100, 7, none⟩ = some (.int .i64 n_Read111) ∧ w103.cell? ⟨b100, 8, none⟩ = some (.int .i64 n_Status112) ∧ w103.cell? ⟨b100, 9, none⟩ = some (.int .i64 n_Code113) ∧
 Calls Tryz.prog fn_inner_Step #[.agg #[.int .i64 n_Ip104, .int .i64 n_Handler105, s_Stack106.val, s_Back107.val, s_Mem108.val, .string t_Out109, .string t_In110, .int .i64 n_Read111, .int .i64 n_Status112, .int .i64 n_Code113]] w103 fun e114 w115 => ∃ n_Ip116 : Int, ∃ n_Handler117 : Int, ∃ s_Stack118 : Sl, ∃ s_Back119 : Sl, ∃ s_Mem120 : Sl, ∃ t_Out121 : ByteArray, ∃ t_In122 : ByteArray, ∃ n_Read123 : Int, ∃ n_Status124 : Int, ∃ n_Code125 : Int, e114 = .returned (.agg #[.int .i64 n_Ip116, .int .i64 n_Handler117, s_Stack118.val, s_Back119.val, s_Mem120.val, .string t_Out121, .string t_In122, .int .i64 n_Read123, .int .i64 n_Status124, .int .i64 n_Code125]) ∧
 brB (n_Status124 == (2 : Int))
 (∀ w126 : World, w126 = World.drew w115 →
 ∃ S127 : World → Prop, S127 w126 ∧
 ∃ n_Ip128 : Int, ∃ n_Handler129 : Int, ∃ s_Stack130 : Sl, ∃ s_Back131 : Sl, ∃ s_Mem132 : Sl, ∃ t_Out133 : ByteArray, ∃ t_In134 : ByteArray, ∃ n_Read135 : Int, ∃ n_Status136 : Int, ∃ n_Code137 : Int, held S127 ⟨b11, 0, none⟩ (.int .i64 n_Ip128) ∧ held S127 ⟨b11, 1, none⟩ (.int .i64 n_Handler129) ∧ held S127 ⟨b11, 2, none⟩ (s_Stack130.val) ∧ held S127 ⟨b11, 3, none⟩ (s_Back131.val) ∧ held S127 ⟨b11, 4, none⟩ (s_Mem132.val) ∧ held S127 ⟨b11, 5, none⟩ (.string t_Out133) ∧ held S127 ⟨b11, 6, none⟩ (.string t_In134) ∧ held S127 ⟨b11, 7, none⟩ (.int .i64 n_Read135) ∧ held S127 ⟨b11, 8, none⟩ (.int .i64 n_Status136) ∧ held S127 ⟨b11, 9, none⟩ (.int .i64 n_Code137) ∧
 S127 w126 ∧
 wrOk w126 ⟨b13, 0, none⟩ 4 ∧ ∀ w138 : World, w138 = stW w126 ⟨b13, 0, none⟩ 0 [.int .i64 (0 : Int), .int .i64 (0 : Int), .int .i64 (0 : Int), .int .i64 (0 : Int)] →
 S127 w138 ∧
 wrOk w138 ⟨b15, 0, none⟩ 10 ∧ ∀ w139 : World, w139 = stW w138 ⟨b15, 0, none⟩ 0 [.int .i64 n_Ip128, .int .i64 n_Handler129, s_Stack130.val, s_Back131.val, s_Mem132.val, .string t_Out133, .string t_In134, .int .i64 n_Read135, .int .i64 n_Status136, .int .i64 n_Code137] →
 ∃ r_Ip140 : Int, ∃ r_Cell141 : Int, ∃ r_Arg142 : Int, ∃ r_Next143 : Int, w139.cell? ⟨b13, 0, none⟩ = some (.int .i64 r_Ip140) ∧ w139.cell? ⟨b13, 1, none⟩ = some (.int .i64 r_Cell141) ∧ w139.cell? ⟨b13, 2, none⟩ = some (.int .i64 r_Arg142) ∧ w139.cell? ⟨b13, 3, none⟩ = some (.int .i64 r_Next143) ∧
 ∃ r_Ip144 : Int, ∃ r_Handler145 : Int, ∃ r_Stack146 : Sl, ∃ r_Back147 : Sl, ∃ r_Mem148 : Sl, ∃ r_Out149 : ByteArray, ∃ r_In150 : ByteArray, ∃ r_Read151 : Int, ∃ r_Status152 : Int, ∃ r_Code153 : Int, w139.cell? ⟨b15, 0, none⟩ = some (.int .i64 r_Ip144) ∧ w139.cell? ⟨b15, 1, none⟩ = some (.int .i64 r_Handler145) ∧ w139.cell? ⟨b15, 2, none⟩ = some (r_Stack146.val) ∧ w139.cell? ⟨b15, 3, none⟩ = some (r_Back147.val) ∧ w139.cell? ⟨b15, 4, none⟩ = some (r_Mem148.val) ∧ w139.cell? ⟨b15, 5, none⟩ = some (.string r_Out149) ∧ w139.cell? ⟨b15, 6, none⟩ = some (.string r_In150) ∧ w139.cell? ⟨b15, 7, none⟩ = some (.int .i64 r_Read151) ∧ w139.cell? ⟨b15, 8, none⟩ = some (.int .i64 r_Status152) ∧ w139.cell? ⟨b15, 9, none⟩ = some (.int .i64 r_Code153) ∧
 K (.tuple #[.agg #[.int .i64 r_Ip140, .int .i64 r_Cell141, .int .i64 r_Arg142, .int .i64 r_Next143], .agg #[.int .i64 r_Ip144, .int .i64 r_Handler145, r_Stack146.val, r_Back147.val, r_Mem148.val, .string r_Out149, .string r_In150, .int .i64 r_Read151, .int .i64 r_Status152, .int .i64 r_Code153], .bool false]) w139)
 (∃ n_Ip154 : Int, ∃ n_Handler155 : Int, ∃ s_Stack156 : Sl, ∃ s_Back157 : Sl, ∃ s_Mem158 : Sl, ∃ t_Out159 : ByteArray, ∃ t_In160 : ByteArray, ∃ n_Read161 : Int, ∃ n_Status162 : Int, ∃ n_Code163 : Int, w115.cell? ⟨b11, 0, none⟩ = some (.int .i64 n_Ip154) ∧ w115.cell? ⟨b11, 1, none⟩ = some (.int .i64 n_Handler155) ∧ w115.cell? ⟨b11, 2, none⟩ = some (s_Stack156.val) ∧ w115.cell? ⟨b11, 3, none⟩ = some (s_Back157.val) ∧ w115.cell? ⟨b11, 4, none⟩ = some (s_Mem158.val) ∧ w115.cell? ⟨b11, 5, none⟩ = some (.string t_Out159) ∧ w115.cell? ⟨b11, 6, none⟩ = some (.string t_In160) ∧ w115.cell? ⟨b11, 7, none⟩ = some (.int .i64 n_Read161) ∧ w115.cell? ⟨b11, 8, none⟩ = some (.int .i64 n_Status162) ∧ w115.cell? ⟨b11, 9, none⟩ = some (.int .i64 n_Code163) ∧
 Calls Tryz.prog fn_inner_Step #[.agg #[.int .i64 n_Ip154, .int .i64 n_Handler155, s_Stack156.val, s_Back157.val, s_Mem158.val, .string t_Out159, .string t_In160, .int .i64 n_Read161, .int .i64 n_Status162, .int .i64 n_Code163]] w115 fun e164 w165 => ∃ n_Ip166 : Int, ∃ n_Handler167 : Int, ∃ s_Stack168 : Sl, ∃ s_Back169 : Sl, ∃ s_Mem170 : Sl, ∃ t_Out171 : ByteArray, ∃ t_In172 : ByteArray, ∃ n_Read173 : Int, ∃ n_Status174 : Int, ∃ n_Code175 : Int, e164 = .returned (.agg #[.int .i64 n_Ip166, .int .i64 n_Handler167, s_Stack168.val, s_Back169.val, s_Mem170.val, .string t_Out171, .string t_In172, .int .i64 n_Read173, .int .i64 n_Status174, .int .i64 n_Code175]) ∧
 ∀ (b176 : Nat) (w177 : World), b176 = w165.heap.size → w177 = World.alloc w165 (.cells #[.int .i64 (0 : Int), .int .i64 (0 : Int), .slice none 0 0, .slice none 0 0, .slice none 0 0, .string (bs []), .string (bs []), .int .i64 (0 : Int), .int .i64 (0 : Int), .int .i64 (0 : Int)] T_api_State) →
 wrOk w177 ⟨b176, 0, none⟩ 10 ∧ ∀ w178 : World, w178 = stW w177 ⟨b176, 0, none⟩ 0 [.int .i64 n_Ip166, .int .i64 n_Handler167, s_Stack168.val, s_Back169.val, s_Mem170.val, .string t_Out171, .string t_In172, .int .i64 n_Read173, .int .i64 n_Status174, .int .i64 n_Code175] →
 ∃ n179 : Int, w178.cell? ⟨b176, 0, none⟩ = some (.int .i64 n179) ∧
 wrOk w178 ⟨b67, 3, none⟩ 1 ∧ ∀ w180 : World, w180 = stW w178 ⟨b67, 3, none⟩ 0 [.int .i64 n179] →
 ∀ w181 : World, w181 = World.drew w180 →
 ∃ S182 : World → Prop, S182 w181 ∧
 ∃ n_Ip183 : Int, ∃ n_Cell184 : Int, ∃ n_Arg185 : Int, ∃ n_Next186 : Int, held S182 ⟨b67, 0, none⟩ (.int .i64 n_Ip183) ∧ held S182 ⟨b67, 1, none⟩ (.int .i64 n_Cell184) ∧ held S182 ⟨b67, 2, none⟩ (.int .i64 n_Arg185) ∧ held S182 ⟨b67, 3, none⟩ (.int .i64 n_Next186) ∧
 ∃ n_Ip187 : Int, ∃ n_Handler188 : Int, ∃ s_Stack189 : Sl, ∃ s_Back190 : Sl, ∃ s_Mem191 : Sl, ∃ t_Out192 : ByteArray, ∃ t_In193 : ByteArray, ∃ n_Read194 : Int, ∃ n_Status195 : Int, ∃ n_Code196 : Int, held S182 ⟨b176, 0, none⟩ (.int .i64 n_Ip187) ∧ held S182 ⟨b176, 1, none⟩ (.int .i64 n_Handler188) ∧ held S182 ⟨b176, 2, none⟩ (s_Stack189.val) ∧ held S182 ⟨b176, 3, none⟩ (s_Back190.val) ∧ held S182 ⟨b176, 4, none⟩ (s_Mem191.val) ∧ held S182 ⟨b176, 5, none⟩ (.string t_Out192) ∧ held S182 ⟨b176, 6, none⟩ (.string t_In193) ∧ held S182 ⟨b176, 7, none⟩ (.int .i64 n_Read194) ∧ held S182 ⟨b176, 8, none⟩ (.int .i64 n_Status195) ∧ held S182 ⟨b176, 9, none⟩ (.int .i64 n_Code196) ∧
 ∃ n197 : Int, held S182 ⟨b67, 3, none⟩ (.int .i64 n197) ∧
 Calls Tryz.prog fn_record_place #[.int .i64 n197] w181 fun e198 w199 => ∃ b200 : Bool, e198 = .returned (.bool b200) ∧
 S182 w199 ∧
 wrOk w199 ⟨b13, 0, none⟩ 4 ∧ ∀ w201 : World, w201 = stW w199 ⟨b13, 0, none⟩ 0 [.int .i64 n_Ip183, .int .i64 n_Cell184, .int .i64 n_Arg185, .int .i64 n_Next186] →
 S182 w201 ∧
 wrOk w201 ⟨b15, 0, none⟩ 10 ∧ ∀ w202 : World, w202 = stW w201 ⟨b15, 0, none⟩ 0 [.int .i64 n_Ip187, .int .i64 n_Handler188, s_Stack189.val, s_Back190.val, s_Mem191.val, .string t_Out192, .string t_In193, .int .i64 n_Read194, .int .i64 n_Status195, .int .i64 n_Code196] →
 ∃ r_Ip203 : Int, ∃ r_Cell204 : Int, ∃ r_Arg205 : Int, ∃ r_Next206 : Int, w202.cell? ⟨b13, 0, none⟩ = some (.int .i64 r_Ip203) ∧ w202.cell? ⟨b13, 1, none⟩ = some (.int .i64 r_Cell204) ∧ w202.cell? ⟨b13, 2, none⟩ = some (.int .i64 r_Arg205) ∧ w202.cell? ⟨b13, 3, none⟩ = some (.int .i64 r_Next206) ∧
 ∃ r_Ip207 : Int, ∃ r_Handler208 : Int, ∃ r_Stack209 : Sl, ∃ r_Back210 : Sl, ∃ r_Mem211 : Sl, ∃ r_Out212 : ByteArray, ∃ r_In213 : ByteArray, ∃ r_Read214 : Int, ∃ r_Status215 : Int, ∃ r_Code216 : Int, w202.cell? ⟨b15, 0, none⟩ = some (.int .i64 r_Ip207) ∧ w202.cell? ⟨b15, 1, none⟩ = some (.int .i64 r_Handler208) ∧ w202.cell? ⟨b15, 2, none⟩ = some (r_Stack209.val) ∧ w202.cell? ⟨b15, 3, none⟩ = some (r_Back210.val) ∧ w202.cell? ⟨b15, 4, none⟩ = some (r_Mem211.val) ∧ w202.cell? ⟨b15, 5, none⟩ = some (.string r_Out212) ∧ w202.cell? ⟨b15, 6, none⟩ = some (.string r_In213) ∧ w202.cell? ⟨b15, 7, none⟩ = some (.int .i64 r_Read214) ∧ w202.cell? ⟨b15, 8, none⟩ = some (.int .i64 r_Status215) ∧ w202.cell? ⟨b15, 9, none⟩ = some (.int .i64 r_Code216) ∧
 K (.tuple #[.agg #[.int .i64 r_Ip203, .int .i64 r_Cell204, .int .i64 r_Arg205, .int .i64 r_Next206], .agg #[.int .i64 r_Ip207, .int .i64 r_Handler208, r_Stack209.val, r_Back210.val, r_Mem211.val, .string r_Out212, .string r_In213, .int .i64 r_Read214, .int .i64 r_Status215, .int .i64 r_Code216], .bool b200]) w202)) ∧
 Calls Tryz.prog fn_record_arg #[.int .i64 n30] w69 fun e70 w71 => ∃ b72 : Bool, e70 = .returned (.bool b72) ∧
 brB b72
 (∃ n_Ip73 : Int, ∃ n_Handler74 : Int, ∃ s_Stack75 : Sl, ∃ s_Back76 : Sl, ∃ s_Mem77 : Sl, ∃ t_Out78 : ByteArray, ∃ t_In79 : ByteArray, ∃ n_Read80 : Int, ∃ n_Status81 : Int, ∃ n_Code82 : Int, w71.cell? ⟨b11, 0, none⟩ = some (.int .i64 n_Ip73) ∧ w71.cell? ⟨b11, 1, none⟩ = some (.int .i64 n_Handler74) ∧ w71.cell? ⟨b11, 2, none⟩ = some (s_Stack75.val) ∧ w71.cell? ⟨b11, 3, none⟩ = some (s_Back76.val) ∧ w71.cell? ⟨b11, 4, none⟩ = some (s_Mem77.val) ∧ w71.cell? ⟨b11, 5, none⟩ = some (.string t_Out78) ∧ w71.cell? ⟨b11, 6, none⟩ = some (.string t_In79) ∧ w71.cell? ⟨b11, 7, none⟩ = some (.int .i64 n_Read80) ∧ w71.cell? ⟨b11, 8, none⟩ = some (.int .i64 n_Status81) ∧ w71.cell? ⟨b11, 9, none⟩ = some (.int .i64 n_Code82) ∧
 ∃ n83 : Int, w71.cell? ⟨b11, 0, none⟩ = some (.int .i64 n83) ∧
 Calls Tryz.prog fn_record_load #[.agg #[.int .i64 n_Ip73, .int .i64 n_Handler74, s_Stack75.val, s_Back76.val, s_Mem77.val, .string t_Out78, .string t_In79, .int .i64 n_Read80, .int .i64 n_Status81, .int .i64 n_Code82], .int .i64 (wr (n83 + (1 : Int)))] w71 fun e84 w85 => ∃ n86 : Int, ∃ b87 : Bool, e84 = .returned (.tuple #[.int .i64 n86, .bool b87]) ∧
 wrOk w85 ⟨b67, 2, none⟩ 1 ∧ ∀ w88 : World, w88 = stW w85 ⟨b67, 2, none⟩ 0 [.int .i64 n86] →
 J7  w88)
 (J7  w71))) ∧
 brB (!b31)
 (J4 true w29)
 (∃ n32 : Int, w29.cell? ⟨b11, 8, none⟩ = some (.int .i64 n32) ∧
 brB (n32 != (0 : Int))
 (J4 true w29)
 (Calls Tryz.prog fn_record_plain #[.int .i64 n30] w29 fun e33 w34 => ∃ b35 : Bool, e33 = .returned (.bool b35) ∧
 J4 (!b35) w34))
def record_next_an : An := ⟨[], [(3, (3, .st 1 (.ef 0 (.ef 2 .done)), 1)), (10, (3, .st 1 (.ef 0 (.ef 2 .done)), 1)), (13, (6, .st 0 (.st 1 (.st 2 (.st 3 (.ef 4 (.ef 5 .done))))), 1))], [(3, [(28, .bool)]), (7, [])]⟩
theorem record_next_lift {s__Ip1 : Int} {s__Handler2 : Int} {s__Stack3 : Sl} {s__Back4 : Sl} {s__Mem5 : Sl} {s__Out6 : ByteArray} {s__In7 : ByteArray} {s__Read8 : Int} {s__Status9 : Int} {s__Code10 : Int} {w : World} {K : Value → World → Prop} (h : record_next_sh s__Ip1 s__Handler2 s__Stack3 s__Back4 s__Mem5 s__Out6 s__In7 s__Read8 s__Status9 s__Code10 w K) : Calls Tryz.prog fn_record_next #[.agg #[.int .i64 s__Ip1, .int .i64 s__Handler2, s__Stack3.val, s__Back4.val, s__Mem5.val, .string s__Out6, .string s__In7, .int .i64 s__Read8, .int .i64 s__Status9, .int .i64 s__Code10]] w fun e w' => ∃ v, e = .returned v ∧ K v w' :=
   lift_calls (A := record_next_an) (c := bodyOf Tryz.f80) (args := [.agg #[.int .i64 s__Ip1, .int .i64 s__Handler2, s__Stack3.val, s__Back4.val, s__Mem5.val, .string s__Out6, .string s__In7, .int .i64 s__Read8, .int .i64 s__Status9, .int .i64 s__Code10]]) orc orc_wide Tryz.func80 (by kernel_rfl) (by kernel_rfl) (Eq.mp (by kernel_rfl : record_next_sh s__Ip1 s__Handler2 s__Stack3 s__Back4 s__Mem5 s__Out6 s__In7 s__Read8 s__Status9 s__Code10 w K = wpc orc Tryz.f80.ntmps record_next_an (bodyOf Tryz.f80) (argl 0 [.agg #[.int .i64 s__Ip1, .int .i64 s__Handler2, s__Stack3.val, s__Back4.val, s__Mem5.val, .string s__Out6, .string s__In7, .int .i64 s__Read8, .int .i64 s__Status9, .int .i64 s__Code10]]) w (retQ orc Tryz.f80.results.toList K)) h)

-- holloway/record.arg
def record_arg_sh (cell1 : Int) (w : World) (K : Value → World → Prop) : Prop :=
 brB (decide (cell1 < (64 : Int)))
 (Calls Tryz.prog fn_op_Arg #[.int .i64 cell1] w fun e2 w3 => ∃ b4 : Bool, e2 = .returned (.bool b4) ∧
 K (.bool b4) w3)
 (K (.bool false) w)
def record_arg_an : An := ⟨[], [], []⟩
theorem record_arg_lift {cell1 : Int} {w : World} {K : Value → World → Prop} (h : record_arg_sh cell1 w K) : Calls Tryz.prog fn_record_arg #[.int .i64 cell1] w fun e w' => ∃ v, e = .returned v ∧ K v w' :=
   lift_calls (A := record_arg_an) (c := bodyOf Tryz.f81) (args := [.int .i64 cell1]) orc orc_wide Tryz.func81 (by kernel_rfl) (by kernel_rfl) (Eq.mp (by kernel_rfl : record_arg_sh cell1 w K = wpc orc Tryz.f81.ntmps record_arg_an (bodyOf Tryz.f81) (argl 0 [.int .i64 cell1]) w (retQ orc Tryz.f81.results.toList K)) h)

-- holloway/record.single
def record_single_sh (x__Ip1 : Int) (x__Cell2 : Int) (x__Arg3 : Int) (x__Next4 : Int) (w : World) (K : Value → World → Prop) : Prop :=
 ∀ (b5 : Nat) (w6 : World), b5 = w.heap.size → w6 = World.alloc w (.cells #[.int .i64 x__Ip1, .int .i64 x__Cell2, .int .i64 x__Arg3, .int .i64 x__Next4] T_api_Seen) →
 ∃ n7 : Int, w6.cell? ⟨b5, 0, none⟩ = some (.int .i64 n7) ∧
 ∃ J3 : Int → World → Prop, (∀ (last26 : Int) (w13 : World), J3 last26 w13 →
 ∃ n14 : Int, w13.cell? ⟨b5, 1, none⟩ = some (.int .i64 n14) ∧
 Calls Tryz.prog fn_record_plain #[.int .i64 n14] w13 fun e15 w16 => ∃ b17 : Bool, e15 = .returned (.bool b17) ∧
 brB b17
 (∃ n18 : Int, w16.cell? ⟨b5, 1, none⟩ = some (.int .i64 n18) ∧
 Calls Tryz.prog fn_record_arg #[.int .i64 n18] w16 fun e19 w20 => ∃ b21 : Bool, e19 = .returned (.bool b21) ∧
 brB b21
 (∃ n22 : Int, w20.cell? ⟨b5, 0, none⟩ = some (.int .i64 n22) ∧
 Calls Tryz.prog fn_record_place #[.int .i64 n22] w20 fun e23 w24 => ∃ b25 : Bool, e23 = .returned (.bool b25) ∧
 brB b25
 (Calls Tryz.prog fn_record_place #[.int .i64 last26] w24 fun e27 w28 => ∃ b29 : Bool, e27 = .returned (.bool b29) ∧
 brB b29
 (∃ n30 : Int, w28.cell? ⟨b5, 3, none⟩ = some (.int .i64 n30) ∧
 Calls Tryz.prog fn_record_place #[.int .i64 n30] w28 fun e31 w32 => ∃ b33 : Bool, e31 = .returned (.bool b33) ∧
 K (.bool b33) w32)
 (K (.bool false) w28))
 (K (.bool false) w24))
 (∃ n34 : Int, w20.cell? ⟨b5, 2, none⟩ = some (.int .i64 n34) ∧
 brB (n34 == (0 : Int))
 (∃ n35 : Int, w20.cell? ⟨b5, 0, none⟩ = some (.int .i64 n35) ∧
 Calls Tryz.prog fn_record_place #[.int .i64 n35] w20 fun e36 w37 => ∃ b38 : Bool, e36 = .returned (.bool b38) ∧
 brB b38
 (Calls Tryz.prog fn_record_place #[.int .i64 last26] w37 fun e39 w40 => ∃ b41 : Bool, e39 = .returned (.bool b41) ∧
 brB b41
 (∃ n42 : Int, w40.cell? ⟨b5, 3, none⟩ = some (.int .i64 n42) ∧
 Calls Tryz.prog fn_record_place #[.int .i64 n42] w40 fun e43 w44 => ∃ b45 : Bool, e43 = .returned (.bool b45) ∧
 K (.bool b45) w44)
 (K (.bool false) w40))
 (K (.bool false) w37))
 (K (.bool false) w20)))
 (K (.bool false) w16)) ∧
 ∃ n8 : Int, w6.cell? ⟨b5, 1, none⟩ = some (.int .i64 n8) ∧
 Calls Tryz.prog fn_record_arg #[.int .i64 n8] w6 fun e9 w10 => ∃ b11 : Bool, e9 = .returned (.bool b11) ∧
 brB b11
 (∃ n12 : Int, w10.cell? ⟨b5, 0, none⟩ = some (.int .i64 n12) ∧
 J3 (wr (n12 + (1 : Int))) w10)
 (J3 n7 w10)
def record_single_an : An := ⟨[], [], [(4, [(3, .int .i64)])]⟩
theorem record_single_lift {x__Ip1 : Int} {x__Cell2 : Int} {x__Arg3 : Int} {x__Next4 : Int} {w : World} {K : Value → World → Prop} (h : record_single_sh x__Ip1 x__Cell2 x__Arg3 x__Next4 w K) : Calls Tryz.prog fn_record_single #[.agg #[.int .i64 x__Ip1, .int .i64 x__Cell2, .int .i64 x__Arg3, .int .i64 x__Next4]] w fun e w' => ∃ v, e = .returned v ∧ K v w' :=
   lift_calls (A := record_single_an) (c := bodyOf Tryz.f87) (args := [.agg #[.int .i64 x__Ip1, .int .i64 x__Cell2, .int .i64 x__Arg3, .int .i64 x__Next4]]) orc orc_wide Tryz.func87 (by kernel_rfl) (by kernel_rfl) (Eq.mp (by kernel_rfl : record_single_sh x__Ip1 x__Cell2 x__Arg3 x__Next4 w K = wpc orc Tryz.f87.ntmps record_single_an (bodyOf Tryz.f87) (argl 0 [.agg #[.int .i64 x__Ip1, .int .i64 x__Cell2, .int .i64 x__Arg3, .int .i64 x__Next4]]) w (retQ orc Tryz.f87.results.toList K)) h)

-- holloway/record.load
def record_load_sh (s__Ip1 : Int) (s__Handler2 : Int) (s__Stack3 : Sl) (s__Back4 : Sl) (s__Mem5 : Sl) (s__Out6 : ByteArray) (s__In7 : ByteArray) (s__Read8 : Int) (s__Status9 : Int) (s__Code10 : Int) (a_11 : Int) (w : World) (K : Value → World → Prop) : Prop :=
 ∀ (b12 : Nat) (w13 : World), b12 = w.heap.size → w13 = World.alloc w (.cells #[.int .i64 s__Ip1, .int .i64 s__Handler2, s__Stack3.val, s__Back4.val, s__Mem5.val, .string s__Out6, .string s__In7, .int .i64 s__Read8, .int .i64 s__Status9, .int .i64 s__Code10] T_api_State) →
 ∃ J3 : Bool → World → Prop, (∀ (b16 : Bool) (w15 : World), J3 b16 w15 →
 brB b16
 (K (.tuple #[.int .i64 (0 : Int), .bool false]) w15)
 (∃ s17 : Sl, w15.cell? ⟨b12, 4, none⟩ = some (s17.val) ∧
 ∃ a18 : Addr, s17.ptr = some a18 ∧ 0 ≤ a_11 ∧ a_11 < (s17.len : Int) ∧
 ∃ n19 : Int, w15.cell? (Addr.add a18 (Int.toNat a_11 * 1)) = some (.int .i64 n19) ∧
 K (.tuple #[.int .i64 n19, .bool true]) w15)) ∧
 brB (decide (a_11 < (0 : Int)))
 (J3 true w13)
 (∃ s14 : Sl, w13.cell? ⟨b12, 4, none⟩ = some (s14.val) ∧
 J3 (decide (a_11 ≥ (s14.len : Int))) w13)
def record_load_an : An := ⟨[], [], [(2, [(14, .bool)])]⟩
theorem record_load_lift {s__Ip1 : Int} {s__Handler2 : Int} {s__Stack3 : Sl} {s__Back4 : Sl} {s__Mem5 : Sl} {s__Out6 : ByteArray} {s__In7 : ByteArray} {s__Read8 : Int} {s__Status9 : Int} {s__Code10 : Int} {a_11 : Int} {w : World} {K : Value → World → Prop} (h : record_load_sh s__Ip1 s__Handler2 s__Stack3 s__Back4 s__Mem5 s__Out6 s__In7 s__Read8 s__Status9 s__Code10 a_11 w K) : Calls Tryz.prog fn_record_load #[.agg #[.int .i64 s__Ip1, .int .i64 s__Handler2, s__Stack3.val, s__Back4.val, s__Mem5.val, .string s__Out6, .string s__In7, .int .i64 s__Read8, .int .i64 s__Status9, .int .i64 s__Code10], .int .i64 a_11] w fun e w' => ∃ v, e = .returned v ∧ K v w' :=
   lift_calls (A := record_load_an) (c := bodyOf Tryz.f104) (args := [.agg #[.int .i64 s__Ip1, .int .i64 s__Handler2, s__Stack3.val, s__Back4.val, s__Mem5.val, .string s__Out6, .string s__In7, .int .i64 s__Read8, .int .i64 s__Status9, .int .i64 s__Code10], .int .i64 a_11]) orc orc_wide Tryz.func104 (by kernel_rfl) (by kernel_rfl) (Eq.mp (by kernel_rfl : record_load_sh s__Ip1 s__Handler2 s__Stack3 s__Back4 s__Mem5 s__Out6 s__In7 s__Read8 s__Status9 s__Code10 a_11 w K = wpc orc Tryz.f104.ntmps record_load_an (bodyOf Tryz.f104) (argl 0 [.agg #[.int .i64 s__Ip1, .int .i64 s__Handler2, s__Stack3.val, s__Back4.val, s__Mem5.val, .string s__Out6, .string s__In7, .int .i64 s__Read8, .int .i64 s__Status9, .int .i64 s__Code10], .int .i64 a_11]) w (retQ orc Tryz.f104.results.toList K)) h)

-- holloway/record.plain
def record_plain_sh (cell1 : Int) (w : World) (K : Value → World → Prop) : Prop :=
 brB (decide (cell1 ≥ (64 : Int)))
 (K (.bool true) w)
 (Calls Tryz.prog fn_op_Plain #[.int .i64 cell1] w fun e2 w3 => ∃ b4 : Bool, e2 = .returned (.bool b4) ∧
 K (.bool b4) w3)
def record_plain_an : An := ⟨[], [], []⟩
theorem record_plain_lift {cell1 : Int} {w : World} {K : Value → World → Prop} (h : record_plain_sh cell1 w K) : Calls Tryz.prog fn_record_plain #[.int .i64 cell1] w fun e w' => ∃ v, e = .returned v ∧ K v w' :=
   lift_calls (A := record_plain_an) (c := bodyOf Tryz.f105) (args := [.int .i64 cell1]) orc orc_wide Tryz.func105 (by kernel_rfl) (by kernel_rfl) (Eq.mp (by kernel_rfl : record_plain_sh cell1 w K = wpc orc Tryz.f105.ntmps record_plain_an (bodyOf Tryz.f105) (argl 0 [.int .i64 cell1]) w (retQ orc Tryz.f105.results.toList K)) h)

-- holloway/record.place
def record_place_sh (a_1 : Int) (w : World) (K : Value → World → Prop) : Prop :=
 brB (decide (a_1 ≥ (0 : Int)))
 (K (.bool (decide (a_1 < (3000 : Int)))) w)
 (K (.bool false) w)
def record_place_an : An := ⟨[], [], []⟩
theorem record_place_lift {a_1 : Int} {w : World} {K : Value → World → Prop} (h : record_place_sh a_1 w K) : Calls Tryz.prog fn_record_place #[.int .i64 a_1] w fun e w' => ∃ v, e = .returned v ∧ K v w' :=
   lift_calls (A := record_place_an) (c := bodyOf Tryz.f106) (args := [.int .i64 a_1]) orc orc_wide Tryz.func106 (by kernel_rfl) (by kernel_rfl) (Eq.mp (by kernel_rfl : record_place_sh a_1 w K = wpc orc Tryz.f106.ntmps record_place_an (bodyOf Tryz.f106) (argl 0 [.int .i64 a_1]) w (retQ orc Tryz.f106.results.toList K)) h)

end Go.Proofs.YtkjpmkopnkkbmaaGreatDoor
