/- Functions of Slices, read without their frames; that each is enough. Printed by a program of mine (wip/lift/gen.py). -/
import Derived.Test.YtkjpmkopnkkbmaaGreatDoorOrc
set_option maxRecDepth 100000
namespace Go.Proofs.YtkjpmkopnkkbmaaGreatDoor
open Go.RowKit

-- slices.Clone[[]int,int]
def slices_Clone_sl_int_int_sh (s_1 : Sl) (w : World) (K : Value → World → Prop) : Prop :=
 brB (Option.isNone s_1.ptr)
 (K (.slice none 0 0) w)
 (∀ (b2 : Nat) (w3 : World), b2 = w.heap.size → w3 = World.alloc w (.cells #[] T_int) →
 ∃ s4 : Sl, ∃ w5 : World, (Builtin.append_ #[T_sl_int, T_sl_int] T_sl_int #[.slice (some ⟨b2, 0, none⟩) 0 0, s_1.val]).run Tryz.prog w3 = .ok (s4.val) w5 ∧
 K (s4.val) w5)
def slices_Clone_sl_int_int_an : An := ⟨[], [], []⟩
theorem slices_Clone_sl_int_int_lift {s_1 : Sl} {w : World} {K : Value → World → Prop} (h : slices_Clone_sl_int_int_sh s_1 w K) : Calls Tryz.prog fn_slices_Clone_sl_int_int #[s_1.val] w fun e w' => ∃ v, e = .returned v ∧ K v w' :=
   lift_calls (A := slices_Clone_sl_int_int_an) (c := bodyOf Tryz.f42) (args := [s_1.val]) orc orc_wide Tryz.func42 (by kernel_rfl) (by kernel_rfl) (Eq.mp (by kernel_rfl : slices_Clone_sl_int_int_sh s_1 w K = wpc orc Tryz.f42.ntmps slices_Clone_sl_int_int_an (bodyOf Tryz.f42) (argl 0 [s_1.val]) w (retQ orc Tryz.f42.results.toList K)) h)

-- slices.Sort[[]int,int]
def slices_Sort_sl_int_int_sh (x_1 : Sl) (w : World) (K : Value → World → Prop) : Prop :=
 Calls Tryz.prog fn_math_bits_Len #[.int .u64 (IntKind.wrap .u64 (x_1.len : Int))] w fun e2 w3 => ∃ n4 : Int, e2 = .returned (.int .i64 n4) ∧
 Calls Tryz.prog fn_slices_pdqsortOrdered_int #[x_1.val, .int .i64 (0 : Int), .int .i64 (x_1.len : Int), .int .i64 n4] w3 fun e5 w6 => e5 = .returned (.tuple #[]) ∧
 K (.tuple #[]) w6
def slices_Sort_sl_int_int_an : An := ⟨[], [], []⟩
theorem slices_Sort_sl_int_int_lift {x_1 : Sl} {w : World} {K : Value → World → Prop} (h : slices_Sort_sl_int_int_sh x_1 w K) : Calls Tryz.prog fn_slices_Sort_sl_int_int #[x_1.val] w fun e w' => ∃ v, e = .returned v ∧ K v w' :=
   lift_calls (A := slices_Sort_sl_int_int_an) (c := bodyOf Tryz.f82) (args := [x_1.val]) orc orc_wide Tryz.func82 (by kernel_rfl) (by kernel_rfl) (Eq.mp (by kernel_rfl : slices_Sort_sl_int_int_sh x_1 w K = wpc orc Tryz.f82.ntmps slices_Sort_sl_int_int_an (bodyOf Tryz.f82) (argl 0 [x_1.val]) w (retQ orc Tryz.f82.results.toList K)) h)

-- slices.Compact[[]int,int]
def slices_Compact_sl_int_int_sh (s_1 : Sl) (w : World) (K : Value → World → Prop) : Prop :=
 brB (decide ((s_1.len : Int) < (2 : Int)))
 (K (s_1.val) w)
 (∃ (I1 : Int → World → Prop) (μ1 : Int → World → Nat), I1 (1 : Int) w ∧ ∀ (k3 : Int) (w2 : World), I1 k3 w2 →
 brB (decide (k3 < (s_1.len : Int)))
 (∀ w4 : World, w4 = World.drew w2 →
 ∃ a5 : Addr, s_1.ptr = some a5 ∧ 0 ≤ k3 ∧ k3 < (s_1.len : Int) ∧
 ∃ n6 : Int, held (Lw w4) (Addr.add a5 (Int.toNat k3 * 1)) (.int .i64 n6) ∧
 ∃ a7 : Addr, s_1.ptr = some a7 ∧ 0 ≤ (wr (k3 - (1 : Int))) ∧ (wr (k3 - (1 : Int))) < (s_1.len : Int) ∧
 ∃ n8 : Int, held (Lw w4) (Addr.add a7 (Int.toNat (wr (k3 - (1 : Int))) * 1)) (.int .i64 n8) ∧
 brB (n6 == n8)
 (0 ≤ k3 ∧ k3 ≤ (s_1.len : Int) ∧ ∀ s9 : Sl, s9 = Sl.sub s_1.ptr s_1.cap (Int.toNat k3) s_1.len 1 →
 ∃ (I2 : Int → Int → World → Prop) (μ2 : Int → Int → World → Nat), I2 k3 (1 : Int) w4 ∧ ∀ (k17 : Int) (k2_11 : Int) (w10 : World), I2 k17 k2_11 w10 →
 brB (decide (k2_11 < (s9.len : Int)))
 (∃ J16 : Int → World → Prop, (∀ (k27 : Int) (w22 : World), J16 k27 w22 →
 I2 k27 (wr (k2_11 + (1 : Int))) w22 ∧ μ2 k27 (wr (k2_11 + (1 : Int))) w22 < μ2 k17 k2_11 w10) ∧
 ∀ w12 : World, w12 = World.drew w10 →
 ∃ a13 : Addr, s9.ptr = some a13 ∧ 0 ≤ k2_11 ∧ k2_11 < (s9.len : Int) ∧
 ∃ n14 : Int, held (Lw w12) (Addr.add a13 (Int.toNat k2_11 * 1)) (.int .i64 n14) ∧
 ∃ a15 : Addr, s9.ptr = some a15 ∧ 0 ≤ (wr (k2_11 - (1 : Int))) ∧ (wr (k2_11 - (1 : Int))) < (s9.len : Int) ∧
 ∃ n16 : Int, held (Lw w12) (Addr.add a15 (Int.toNat (wr (k2_11 - (1 : Int))) * 1)) (.int .i64 n16) ∧
 brB (n14 != n16)
 (∃ a18 : Addr, s9.ptr = some a18 ∧ 0 ≤ k2_11 ∧ k2_11 < (s9.len : Int) ∧
 ∃ n19 : Int, w12.cell? (Addr.add a18 (Int.toNat k2_11 * 1)) = some (.int .i64 n19) ∧
 ∃ a20 : Addr, s_1.ptr = some a20 ∧ 0 ≤ k17 ∧ k17 < (s_1.len : Int) ∧
 wrOk w12 (Addr.add a20 (Int.toNat k17 * 1)) 1 ∧ ∀ w21 : World, w21 = stW w12 (Addr.add a20 (Int.toNat k17 * 1)) 0 [.int .i64 n19] →
 J16 (wr (k17 + (1 : Int))) w21)
 (J16 k17 w12))
 (0 ≤ k17 ∧ k17 ≤ (s_1.len : Int) ∧ ∀ s23 : Sl, s23 = Sl.sub s_1.ptr s_1.cap (Int.toNat k17) s_1.len 1 →
 ∃ v24 : Value, ∃ w25 : World, (Builtin.clear_ #[T_sl_int] T_x #[s23.val]).run Tryz.prog w10 = .ok v24 w25 ∧
 0 ≤ k17 ∧ k17 ≤ (s_1.cap : Int) ∧ ∀ s26 : Sl, s26 = Sl.sub s_1.ptr s_1.cap 0 (Int.toNat k17) 1 →
 K (s26.val) w25))
 (I1 (wr (k3 + (1 : Int))) w4 ∧ μ1 (wr (k3 + (1 : Int))) w4 < μ1 k3 w2))
 (K (s_1.val) w2))
def slices_Compact_sl_int_int_an : An := ⟨[(4, [(3, .int .i64)]), (9, [(3, .int .i64), (5, .int .i64)])], [(6, (10, .st 0 (.st 1 (.st 2 (.st 3 (.st 4 (.st 5 (.st 6 (.st 7 (.st 8 (.st 9 .done))))))))), 0)), (11, (10, .st 0 (.st 1 (.st 2 (.st 3 (.st 4 (.st 5 (.st 6 (.st 7 (.st 8 (.st 9 .done))))))))), 0))], [(10, [(3, .int .i64)])]⟩
theorem slices_Compact_sl_int_int_lift {s_1 : Sl} {w : World} {K : Value → World → Prop} (h : slices_Compact_sl_int_int_sh s_1 w K) : Calls Tryz.prog fn_slices_Compact_sl_int_int #[s_1.val] w fun e w' => ∃ v, e = .returned v ∧ K v w' :=
   lift_calls (A := slices_Compact_sl_int_int_an) (c := bodyOf Tryz.f83) (args := [s_1.val]) orc orc_wide Tryz.func83 (by kernel_rfl) (by kernel_rfl) (Eq.mp (by kernel_rfl : slices_Compact_sl_int_int_sh s_1 w K = wpc orc Tryz.f83.ntmps slices_Compact_sl_int_int_an (bodyOf Tryz.f83) (argl 0 [s_1.val]) w (retQ orc Tryz.f83.results.toList K)) h)

-- slices.insertionSortOrdered[int]
def slices_insertionSortOrdered_int_j1 (data1 : Sl) (j8 : Int) (I2 : Int → World → Prop) (μ2 : Int → World → Nat) (w6 : World) (I1 : Int → World → Prop) (i5 : Int) (μ1 : Int → World → Nat) (w4 : World) (b19 : Bool) (w18 : World) (_K : Value → World → Prop) : Prop :=
 brB b19
 (∀ w20 : World, w20 = World.drew w18 →
 ∃ S21 : World → Prop, S21 w20 ∧
 ∃ a22 : Addr, data1.ptr = some a22 ∧ 0 ≤ (wr (j8 - (1 : Int))) ∧ (wr (j8 - (1 : Int))) < (data1.len : Int) ∧
 ∃ n23 : Int, held S21 (Addr.add a22 (Int.toNat (wr (j8 - (1 : Int))) * 1)) (.int .i64 n23) ∧
 ∃ a24 : Addr, data1.ptr = some a24 ∧ 0 ≤ j8 ∧ j8 < (data1.len : Int) ∧
 ∃ n25 : Int, held S21 (Addr.add a24 (Int.toNat j8 * 1)) (.int .i64 n25) ∧
 ∃ a26 : Addr, data1.ptr = some a26 ∧ 0 ≤ j8 ∧ j8 < (data1.len : Int) ∧
 wrOk w20 (Addr.add a26 (Int.toNat j8 * 1)) 1 ∧ ∀ w27 : World, w27 = stW w20 (Addr.add a26 (Int.toNat j8 * 1)) 0 [.int .i64 n23] →
 S21 w27 ∧
 ∃ a28 : Addr, data1.ptr = some a28 ∧ 0 ≤ (wr (j8 - (1 : Int))) ∧ (wr (j8 - (1 : Int))) < (data1.len : Int) ∧
 wrOk w27 (Addr.add a28 (Int.toNat (wr (j8 - (1 : Int))) * 1)) 1 ∧ ∀ w29 : World, w29 = stW w27 (Addr.add a28 (Int.toNat (wr (j8 - (1 : Int))) * 1)) 0 [.int .i64 n25] →
 I2 (wr (j8 - (1 : Int))) w29 ∧ μ2 (wr (j8 - (1 : Int))) w29 < μ2 j8 w6)
 (I1 (wr (i5 + (1 : Int))) w18 ∧ μ1 (wr (i5 + (1 : Int))) w18 < μ1 i5 w4)
def slices_insertionSortOrdered_int_sh (data1 : Sl) (a_2 : Int) (b_3 : Int) (w : World) (K : Value → World → Prop) : Prop :=
 ∃ (I1 : Int → World → Prop) (μ1 : Int → World → Nat), I1 (wr (a_2 + (1 : Int))) w ∧ ∀ (i5 : Int) (w4 : World), I1 i5 w4 →
 brB (decide (i5 < b_3))
 (∃ (I2 : Int → World → Prop) (μ2 : Int → World → Nat), I2 i5 w4 ∧ ∀ (j8 : Int) (w6 : World), I2 j8 w6 →
 ∀ w7 : World, w7 = World.drew w6 →
 brB (decide (j8 > a_2))
 (∃ a9 : Addr, data1.ptr = some a9 ∧ 0 ≤ j8 ∧ j8 < (data1.len : Int) ∧
 ∃ n10 : Int, held (Lw w7) (Addr.add a9 (Int.toNat j8 * 1)) (.int .i64 n10) ∧
 ∃ a11 : Addr, data1.ptr = some a11 ∧ 0 ≤ (wr (j8 - (1 : Int))) ∧ (wr (j8 - (1 : Int))) < (data1.len : Int) ∧
 ∃ n12 : Int, held (Lw w7) (Addr.add a11 (Int.toNat (wr (j8 - (1 : Int))) * 1)) (.int .i64 n12) ∧
 Calls Tryz.prog fn_cmp_Less_int #[.int .i64 n10, .int .i64 n12] w7 fun e13 w14 => ∃ b15 : Bool, e13 = .returned (.bool b15) ∧
 slices_insertionSortOrdered_int_j1 data1 j8 I2 (μ2) w6 I1 i5 (μ1) w4 b15 w14 K)
 (slices_insertionSortOrdered_int_j1 data1 j8 I2 (μ2) w6 I1 i5 (μ1) w4 false w7 K))
 (K (.tuple #[]) w4)
def slices_insertionSortOrdered_int_an : An := ⟨[(1, [(6, .int .i64)]), (4, [(7, .int .i64)])], [(4, (13, .st 0 (.st 1 (.st 2 (.st 3 (.st 4 (.st 5 (.st 6 (.st 7 (.st 8 (.st 9 (.st 10 (.st 11 (.st 12 .done)))))))))))), 0)), (6, (16, .st 0 (.st 1 (.st 2 (.st 3 (.st 4 (.st 5 (.st 6 (.st 7 (.st 8 (.st 9 (.st 10 (.st 11 (.st 12 (.st 13 (.st 14 (.ef 15 .done))))))))))))))), 1))], []⟩
theorem slices_insertionSortOrdered_int_lift {data1 : Sl} {a_2 : Int} {b_3 : Int} {w : World} {K : Value → World → Prop} (h : slices_insertionSortOrdered_int_sh data1 a_2 b_3 w K) : Calls Tryz.prog fn_slices_insertionSortOrdered_int #[data1.val, .int .i64 a_2, .int .i64 b_3] w fun e w' => ∃ v, e = .returned v ∧ K v w' :=
   lift_calls (A := slices_insertionSortOrdered_int_an) (c := bodyOf Tryz.f121) (args := [data1.val, .int .i64 a_2, .int .i64 b_3]) orc orc_wide Tryz.func121 (by kernel_rfl) (by kernel_rfl) (Eq.mp (by kernel_rfl : slices_insertionSortOrdered_int_sh data1 a_2 b_3 w K = wpc orc Tryz.f121.ntmps slices_insertionSortOrdered_int_an (bodyOf Tryz.f121) (argl 0 [data1.val, .int .i64 a_2, .int .i64 b_3]) w (retQ orc Tryz.f121.results.toList K)) h)

-- slices.nextPowerOfTwo
def slices_nextPowerOfTwo_sh (length1 : Int) (w : World) (K : Value → World → Prop) : Prop :=
 Calls Tryz.prog fn_math_bits_Len #[.int .u64 (IntKind.wrap .u64 length1)] w fun e2 w3 => ∃ n4 : Int, e2 = .returned (.int .i64 n4) ∧
 0 ≤ n4 ∧ K (.int .u64 (ishl .u64 (1 : Int) n4)) w3
def slices_nextPowerOfTwo_an : An := ⟨[], [], []⟩
theorem slices_nextPowerOfTwo_lift {length1 : Int} {w : World} {K : Value → World → Prop} (h : slices_nextPowerOfTwo_sh length1 w K) : Calls Tryz.prog fn_slices_nextPowerOfTwo #[.int .i64 length1] w fun e w' => ∃ v, e = .returned v ∧ K v w' :=
   lift_calls (A := slices_nextPowerOfTwo_an) (c := bodyOf Tryz.f150) (args := [.int .i64 length1]) orc orc_wide Tryz.func150 (by kernel_rfl) (by kernel_rfl) (Eq.mp (by kernel_rfl : slices_nextPowerOfTwo_sh length1 w K = wpc orc Tryz.f150.ntmps slices_nextPowerOfTwo_an (bodyOf Tryz.f150) (argl 0 [.int .i64 length1]) w (retQ orc Tryz.f150.results.toList K)) h)

-- (*slices.xorshift).Next
def slices_xorshift_Next_sh (r_1 : Nat) (w : World) (K : Value → World → Prop) : Prop :=
 ∀ w2 : World, w2 = World.drew w →
 ∃ n3 : Int, held (Lw w2) ⟨r_1, 0, none⟩ (.int .u64 n3) ∧
 ∃ n4 : Int, held (Lw w2) ⟨r_1, 0, none⟩ (.int .u64 n4) ∧
 0 ≤ (13 : Int) ∧ wrOk w2 ⟨r_1, 0, none⟩ 1 ∧ ∀ w5 : World, w5 = stW w2 ⟨r_1, 0, none⟩ 0 [.int .u64 (ixor .u64 n3 (ishl .u64 n4 (13 : Int)))] →
 ∀ w6 : World, w6 = World.drew w5 →
 ∃ n7 : Int, held (Lw w6) ⟨r_1, 0, none⟩ (.int .u64 n7) ∧
 ∃ n8 : Int, held (Lw w6) ⟨r_1, 0, none⟩ (.int .u64 n8) ∧
 0 ≤ (7 : Int) ∧ wrOk w6 ⟨r_1, 0, none⟩ 1 ∧ ∀ w9 : World, w9 = stW w6 ⟨r_1, 0, none⟩ 0 [.int .u64 (ixor .u64 n7 (ishr .u64 n8 (7 : Int)))] →
 ∀ w10 : World, w10 = World.drew w9 →
 ∃ n11 : Int, held (Lw w10) ⟨r_1, 0, none⟩ (.int .u64 n11) ∧
 ∃ n12 : Int, held (Lw w10) ⟨r_1, 0, none⟩ (.int .u64 n12) ∧
 0 ≤ (17 : Int) ∧ wrOk w10 ⟨r_1, 0, none⟩ 1 ∧ ∀ w13 : World, w13 = stW w10 ⟨r_1, 0, none⟩ 0 [.int .u64 (ixor .u64 n11 (ishl .u64 n12 (17 : Int)))] →
 ∃ n14 : Int, w13.cell? ⟨r_1, 0, none⟩ = some (.int .u64 n14) ∧
 K (.int .u64 n14) w13
def slices_xorshift_Next_an : An := ⟨[], [(1, (9, .st 0 (.st 1 (.st 2 (.st 3 (.st 4 (.st 5 (.st 6 (.st 7 (.st 8 .done)))))))), 0)), (2, (9, .st 0 (.st 1 (.st 2 (.st 3 (.st 4 (.st 5 (.st 6 (.st 7 (.st 8 .done)))))))), 0)), (3, (9, .st 0 (.st 1 (.st 2 (.st 3 (.st 4 (.st 5 (.st 6 (.st 7 (.st 8 .done)))))))), 0))], []⟩
theorem slices_xorshift_Next_lift {r_1 : Nat} {w : World} {K : Value → World → Prop} (h : slices_xorshift_Next_sh r_1 w K) : Calls Tryz.prog fn_slices_xorshift_Next #[.pointer (some ⟨r_1, 0, none⟩)] w fun e w' => ∃ v, e = .returned v ∧ K v w' :=
   lift_calls (A := slices_xorshift_Next_an) (c := bodyOf Tryz.f151) (args := [.pointer (some ⟨r_1, 0, none⟩)]) orc orc_wide Tryz.func151 (by kernel_rfl) (by kernel_rfl) (Eq.mp (by kernel_rfl : slices_xorshift_Next_sh r_1 w K = wpc orc Tryz.f151.ntmps slices_xorshift_Next_an (bodyOf Tryz.f151) (argl 0 [.pointer (some ⟨r_1, 0, none⟩)]) w (retQ orc Tryz.f151.results.toList K)) h)

end Go.Proofs.YtkjpmkopnkkbmaaGreatDoor
