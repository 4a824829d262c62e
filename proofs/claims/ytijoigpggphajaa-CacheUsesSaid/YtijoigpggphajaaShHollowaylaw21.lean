/- Functions of Hollowaylaw21, read without their frames; that each is enough. Printed by a program of mine (wip/lift/gen.py). -/
import Derived.Test.YtijoigpggphajaaOrc
set_option maxRecDepth 100000
namespace Go.Proofs.Ytijoigpggphajaa
open Go.RowKit

-- holloway/hollowaylaw21.CacheSmall
def hollowaylaw21_CacheSmall_sh (l_1 : Sl) (w : World) (K : Value → World → Prop) : Prop :=
 ∃ J3 : Bool → World → Prop, (∀ (b6 : Bool) (w5 : World), J3 b6 w5 →
 brB b6
 (Calls Try.prog fn_hollowaylaw21_alive #[] w5 fun e7 w8 => ∃ b9 : Bool, e7 = .returned (.bool b9) ∧
 K (.bool b9) w8)
 (Calls Try.prog fn_cache_New #[.int .i64 (0 : Int)] w5 fun e10 w11 => ∃ p12 : Option Addr, e10 = .returned (.pointer p12) ∧
 brB (Option.isNone p12)
 (K (.bool false) w11)
 (∃ (I1 : Int → World → Prop) (μ1 : Int → World → Nat), I1 (0 : Int) w11 ∧ ∀ (i14 : Int) (w13 : World), I1 i14 w13 →
 brB (decide (i14 < (l_1.len : Int)))
 (∃ a15 : Addr, l_1.ptr = some a15 ∧ 0 ≤ i14 ∧ i14 < (l_1.len : Int) ∧
 ∃ n16 : Int, w13.cell? (Addr.add a15 (Int.toNat i14 * 1)) = some (.int .i64 n16) ∧
 Calls Try.prog fn_hollowaylaw21_trace #[.int .i64 n16, .int .i64 i14] w13 fun e17 w18 => ∃ n_Start19 : Int, ∃ n_Slots20 : Int, ∃ n_Backs21 : Int, ∃ n_Grow22 : Int, ∃ n_GrowBack23 : Int, ∃ s_Ins24 : Sl, ∃ s_Outs25 : Sl, ∃ n_Last26 : Int, ∃ s_Cells27 : Sl, e17 = .returned (.agg #[.int .i64 n_Start19, .int .i64 n_Slots20, .int .i64 n_Backs21, .int .i64 n_Grow22, .int .i64 n_GrowBack23, s_Ins24.val, s_Outs25.val, .int .i64 n_Last26, s_Cells27.val]) ∧
 Calls Try.prog fn_cache_Cache_Put #[.pointer p12, .agg #[.int .i64 n_Start19, .int .i64 n_Slots20, .int .i64 n_Backs21, .int .i64 n_Grow22, .int .i64 n_GrowBack23, s_Ins24.val, s_Outs25.val, .int .i64 n_Last26, s_Cells27.val]] w18 fun e28 w29 => ∃ s30 : Sl, e28 = .returned (s30.val) ∧
 ∃ J15 : Bool → World → Prop, (∀ (b46 : Bool) (w45 : World), J15 b46 w45 →
 brB b46
 (K (.bool false) w45)
 (I1 (wr (i14 + (1 : Int))) w45 ∧ μ1 (wr (i14 + (1 : Int))) w45 < μ1 i14 w13)) ∧
 ∀ w31 : World, w31 = World.drew w29 →
 ∃ S32 : World → Prop, S32 w31 ∧
 brB ((s30.len : Int) != (1 : Int))
 (J15 true w31)
 (∃ a33 : Addr, s30.ptr = some a33 ∧ 0 ≤ (0 : Int) ∧ (0 : Int) < (s30.len : Int) ∧
 ∃ n34 : Int, held S32 (Addr.add a33 (Int.toNat (0 : Int) * 1)) (.int .i64 n34) ∧
 ∃ a35 : Addr, l_1.ptr = some a35 ∧ 0 ≤ i14 ∧ i14 < (l_1.len : Int) ∧
 ∃ n36 : Int, held S32 (Addr.add a35 (Int.toNat i14 * 1)) (.int .i64 n36) ∧
 brB (n34 != n36)
 (J15 true w31)
 (Calls Try.prog fn_cache_Cache_Len #[.pointer p12] w31 fun e37 w38 => ∃ n39 : Int, e37 = .returned (.int .i64 n39) ∧
 S32 w38 ∧
 brB (n39 != (0 : Int))
 (J15 true w38)
 (∃ a40 : Addr, l_1.ptr = some a40 ∧ 0 ≤ i14 ∧ i14 < (l_1.len : Int) ∧
 ∃ n41 : Int, held S32 (Addr.add a40 (Int.toNat i14 * 1)) (.int .i64 n41) ∧
 Calls Try.prog fn_cache_Cache_Has #[.pointer p12, .int .i64 n41] w38 fun e42 w43 => ∃ b44 : Bool, e42 = .returned (.bool b44) ∧
 J15 b44 w43))))
 (Calls Try.prog fn_cache_Cache_Starts #[.pointer p12] w13 fun e47 w48 => ∃ s49 : Sl, e47 = .returned (s49.val) ∧
 K (.bool ((s49.len : Int) == (0 : Int))) w48)))) ∧
 brB (decide ((l_1.len : Int) > (40 : Int)))
 (J3 true w)
 (Calls Try.prog fn_hollowaylaw21_alive #[] w fun e2 w3 => ∃ b4 : Bool, e2 = .returned (.bool b4) ∧
 J3 (!b4) w3)
def hollowaylaw21_CacheSmall_an : An := ⟨[(7, [(4, .int .i64)])], [(10, (24, .st 0 (.st 1 (.st 2 (.st 3 (.st 4 (.st 5 (.st 6 (.st 7 (.st 8 (.st 9 (.st 10 (.st 11 (.st 12 (.st 13 (.st 14 (.ef 15 (.st 16 (.st 17 (.st 18 (.st 19 (.st 20 (.st 21 (.st 22 (.st 23 .done))))))))))))))))))))))), 1))], [(2, [(12, .bool)]), (11, [(56, .bool)])]⟩
theorem hollowaylaw21_CacheSmall_lift {l_1 : Sl} {w : World} {K : Value → World → Prop} (h : hollowaylaw21_CacheSmall_sh l_1 w K) : Calls Try.prog fn_hollowaylaw21_CacheSmall #[l_1.val] w fun e w' => ∃ v, e = .returned v ∧ K v w' :=
   lift_calls (A := hollowaylaw21_CacheSmall_an) (c := bodyOf Try.f3) (args := [l_1.val]) orc orc_wide Try.func3 (by kernel_rfl) (by kernel_rfl) (Eq.mp (by kernel_rfl : hollowaylaw21_CacheSmall_sh l_1 w K = wpc orc Try.f3.ntmps hollowaylaw21_CacheSmall_an (bodyOf Try.f3) (argl 0 [l_1.val]) w (retQ orc Try.f3.results.toList K)) h)

-- holloway/hollowaylaw21.CacheUses
def hollowaylaw21_CacheUses_sh (n_1 : Int) (use2 : Int) (w : World) (K : Value → World → Prop) : Prop :=
 ∃ J3 : Bool → World → Prop, (∀ (b7 : Bool) (w6 : World), J3 b7 w6 →
 brB b7
 (Calls Try.prog fn_hollowaylaw21_alive #[] w6 fun e8 w9 => ∃ b10 : Bool, e8 = .returned (.bool b10) ∧
 K (.bool b10) w9)
 (Calls Try.prog fn_cache_New #[.int .i64 n_1] w6 fun e11 w12 => ∃ p13 : Option Addr, e11 = .returned (.pointer p13) ∧
 brB (Option.isNone p13)
 (K (.bool false) w12)
 (∃ (I1 : Int → World → Prop) (μ1 : Int → World → Nat), I1 (0 : Int) w12 ∧ ∀ (k15 : Int) (w14 : World), I1 k15 w14 →
 brB (decide (k15 < n_1))
 (Calls Try.prog fn_hollowaylaw21_trace #[.int .i64 k15, .int .i64 k15] w14 fun e16 w17 => ∃ n_Start18 : Int, ∃ n_Slots19 : Int, ∃ n_Backs20 : Int, ∃ n_Grow21 : Int, ∃ n_GrowBack22 : Int, ∃ s_Ins23 : Sl, ∃ s_Outs24 : Sl, ∃ n_Last25 : Int, ∃ s_Cells26 : Sl, e16 = .returned (.agg #[.int .i64 n_Start18, .int .i64 n_Slots19, .int .i64 n_Backs20, .int .i64 n_Grow21, .int .i64 n_GrowBack22, s_Ins23.val, s_Outs24.val, .int .i64 n_Last25, s_Cells26.val]) ∧
 Calls Try.prog fn_cache_Cache_Put #[.pointer p13, .agg #[.int .i64 n_Start18, .int .i64 n_Slots19, .int .i64 n_Backs20, .int .i64 n_Grow21, .int .i64 n_GrowBack22, s_Ins23.val, s_Outs24.val, .int .i64 n_Last25, s_Cells26.val]] w17 fun e27 w28 => ∃ s29 : Sl, e27 = .returned (s29.val) ∧
 brB ((s29.len : Int) != (0 : Int))
 (K (.bool false) w28)
 (I1 (wr (k15 + (1 : Int))) w28 ∧ μ1 (wr (k15 + (1 : Int))) w28 < μ1 k15 w14))
 (n_1 ≠ 0 ∧ n_1 ≠ 0 ∧ Calls Try.prog fn_cache_Cache_Get #[.pointer p13, .int .i64 (Int.tmod (wr ((Int.tmod use2 n_1) + n_1)) n_1)] w14 fun e30 w31 => ∃ n_Start32 : Int, ∃ n_Slots33 : Int, ∃ n_Backs34 : Int, ∃ n_Grow35 : Int, ∃ n_GrowBack36 : Int, ∃ s_Ins37 : Sl, ∃ s_Outs38 : Sl, ∃ n_Last39 : Int, ∃ s_Cells40 : Sl, ∃ b41 : Bool, e30 = .returned (.tuple #[.agg #[.int .i64 n_Start32, .int .i64 n_Slots33, .int .i64 n_Backs34, .int .i64 n_Grow35, .int .i64 n_GrowBack36, s_Ins37.val, s_Outs38.val, .int .i64 n_Last39, s_Cells40.val], .bool b41]) ∧
 ∀ (b42 : Nat) (w43 : World), b42 = w31.heap.size → w43 = World.alloc w31 (.cells #[.int .i64 (0 : Int), .int .i64 (0 : Int), .int .i64 (0 : Int), .int .i64 (0 : Int), .int .i64 (0 : Int), .slice none 0 0, .slice none 0 0, .int .i64 (0 : Int), .slice none 0 0] T_api_Trace) →
 wrOk w43 ⟨b42, 0, none⟩ 9 ∧ ∀ w44 : World, w44 = stW w43 ⟨b42, 0, none⟩ 0 [.int .i64 n_Start32, .int .i64 n_Slots33, .int .i64 n_Backs34, .int .i64 n_Grow35, .int .i64 n_GrowBack36, s_Ins37.val, s_Outs38.val, .int .i64 n_Last39, s_Cells40.val] →
 ∃ J19 : Bool → World → Prop, (∀ (b49 : Bool) (w48 : World), J19 b49 w48 →
 brB b49
 (K (.bool false) w48)
 (∃ J22 : Int → World → Prop, (∀ (first69 : Int) (w50 : World), J22 first69 w50 →
 Calls Try.prog fn_cache_Cache_Eldest #[.pointer p13] w50 fun e51 w52 => ∃ n53 : Int, ∃ b54 : Bool, e51 = .returned (.tuple #[.int .i64 n53, .bool b54]) ∧
 Calls Try.prog fn_hollowaylaw21_trace #[.int .i64 n_1, .int .i64 n_1] w52 fun e55 w56 => ∃ n_Start57 : Int, ∃ n_Slots58 : Int, ∃ n_Backs59 : Int, ∃ n_Grow60 : Int, ∃ n_GrowBack61 : Int, ∃ s_Ins62 : Sl, ∃ s_Outs63 : Sl, ∃ n_Last64 : Int, ∃ s_Cells65 : Sl, e55 = .returned (.agg #[.int .i64 n_Start57, .int .i64 n_Slots58, .int .i64 n_Backs59, .int .i64 n_Grow60, .int .i64 n_GrowBack61, s_Ins62.val, s_Outs63.val, .int .i64 n_Last64, s_Cells65.val]) ∧
 Calls Try.prog fn_cache_Cache_Put #[.pointer p13, .agg #[.int .i64 n_Start57, .int .i64 n_Slots58, .int .i64 n_Backs59, .int .i64 n_Grow60, .int .i64 n_GrowBack61, s_Ins62.val, s_Outs63.val, .int .i64 n_Last64, s_Cells65.val]] w56 fun e66 w67 => ∃ s68 : Sl, e66 = .returned (s68.val) ∧
 brB b54
 (brB (n53 == first69)
 (brB ((s68.len : Int) == (1 : Int))
 (∃ a70 : Addr, s68.ptr = some a70 ∧ 0 ≤ (0 : Int) ∧ (0 : Int) < (s68.len : Int) ∧
 ∃ n71 : Int, w67.cell? (Addr.add a70 (Int.toNat (0 : Int) * 1)) = some (.int .i64 n71) ∧
 brB (n71 == first69)
 (Calls Try.prog fn_cache_Cache_Has #[.pointer p13, .int .i64 (Int.tmod (wr ((Int.tmod use2 n_1) + n_1)) n_1)] w67 fun e72 w73 => ∃ b74 : Bool, e72 = .returned (.bool b74) ∧
 brB b74
 (Calls Try.prog fn_cache_Cache_Len #[.pointer p13] w73 fun e75 w76 => ∃ n77 : Int, e75 = .returned (.int .i64 n77) ∧
 brB (n77 == n_1)
 (Calls Try.prog fn_cache_Cache_Has #[.pointer p13, .int .i64 first69] w76 fun e78 w79 => ∃ b80 : Bool, e78 = .returned (.bool b80) ∧
 K (.bool (!b80)) w79)
 (K (.bool false) w76))
 (K (.bool false) w73))
 (K (.bool false) w67))
 (K (.bool false) w67))
 (K (.bool false) w67))
 (K (.bool false) w67)) ∧
 brB ((Int.tmod (wr ((Int.tmod use2 n_1) + n_1)) n_1) == (0 : Int))
 (J22 (1 : Int) w48)
 (J22 (0 : Int) w48))) ∧
 brB (!b41)
 (J19 true w44)
 (Calls Try.prog fn_cache_Cache_Has #[.pointer p13, .int .i64 (0 : Int)] w44 fun e45 w46 => ∃ b47 : Bool, e45 = .returned (.bool b47) ∧
 J19 (!b47) w46))))) ∧
 brB (decide (n_1 < (2 : Int)))
 (J3 true w)
 (brB (decide (n_1 > (50 : Int)))
 (J3 true w)
 (Calls Try.prog fn_hollowaylaw21_alive #[] w fun e3 w4 => ∃ b5 : Bool, e3 = .returned (.bool b5) ∧
 J3 (!b5) w4))
def hollowaylaw21_CacheUses_an : An := ⟨[(7, [(6, .int .i64)])], [], [(2, [(23, .bool)]), (14, [(60, .bool)]), (18, [(10, .int .i64)])]⟩
theorem hollowaylaw21_CacheUses_lift {n_1 : Int} {use2 : Int} {w : World} {K : Value → World → Prop} (h : hollowaylaw21_CacheUses_sh n_1 use2 w K) : Calls Try.prog fn_hollowaylaw21_CacheUses #[.int .i64 n_1, .int .i64 use2] w fun e w' => ∃ v, e = .returned v ∧ K v w' :=
   lift_calls (A := hollowaylaw21_CacheUses_an) (c := bodyOf Try.f4) (args := [.int .i64 n_1, .int .i64 use2]) orc orc_wide Try.func4 (by kernel_rfl) (by kernel_rfl) (Eq.mp (by kernel_rfl : hollowaylaw21_CacheUses_sh n_1 use2 w K = wpc orc Try.f4.ntmps hollowaylaw21_CacheUses_an (bodyOf Try.f4) (argl 0 [.int .i64 n_1, .int .i64 use2]) w (retQ orc Try.f4.results.toList K)) h)

-- holloway/hollowaylaw21.CachePlays
def hollowaylaw21_CachePlays_sh (most1 : Int) (l_2 : Sl) (w : World) (K : Value → World → Prop) : Prop :=
 ∃ J3 : Bool → World → Prop, (∀ (b7 : Bool) (w6 : World), J3 b7 w6 →
 brB b7
 (Calls Try.prog fn_hollowaylaw21_alive #[] w6 fun e8 w9 => ∃ b10 : Bool, e8 = .returned (.bool b10) ∧
 K (.bool b10) w9)
 (Calls Try.prog fn_cache_New #[.int .i64 most1] w6 fun e11 w12 => ∃ p13 : Option Addr, e11 = .returned (.pointer p13) ∧
 brB (Option.isNone p13)
 (K (.bool false) w12)
 (∀ (b14 : Nat) (w15 : World), b14 = w12.heap.size → w15 = World.alloc w12 (.cells #[.slice none 0 0, .slice none 0 0, .slice none 0 0, .slice none 0 0, .slice none 0 0, .slice none 0 0, .slice none 0 0, .slice none 0 0, .slice none 0 0, .slice none 0 0, .slice none 0 0, .slice none 0 0] T_hollowaybook_Book) →
 ∃ (I1 : Sl → Sl → Int → World → Prop) (μ1 : Sl → Sl → Int → World → Nat), I1 (⟨none, 0, 0⟩ : Sl) (⟨none, 0, 0⟩ : Sl) (0 : Int) w15 ∧ ∀ (order27 : Sl) (vals34 : Sl) (i17 : Int) (w16 : World), I1 order27 vals34 i17 w16 →
 brB (decide (i17 < (l_2.len : Int)))
 (∃ a18 : Addr, l_2.ptr = some a18 ∧ 0 ≤ i17 ∧ i17 < (l_2.len : Int) ∧
 ∃ n_Kind19 : Int, ∃ n_Start20 : Int, ∃ n_V21 : Int, w16.cell? (Addr.add a18 (Int.toNat i17 * 3)) = some (.int .i64 n_Kind19) ∧ w16.cell? (Addr.add (Addr.add a18 (Int.toNat i17 * 3)) 1) = some (.int .i64 n_Start20) ∧ w16.cell? (Addr.add (Addr.add a18 (Int.toNat i17 * 3)) 2) = some (.int .i64 n_V21) ∧
 ∀ (b22 : Nat) (w23 : World), b22 = w16.heap.size → w23 = World.alloc w16 (.cells #[.int .i64 (0 : Int), .int .i64 (0 : Int), .int .i64 (0 : Int)] T_hollowaylaw21_Op) →
 wrOk w23 ⟨b22, 0, none⟩ 3 ∧ ∀ w24 : World, w24 = stW w23 ⟨b22, 0, none⟩ 0 [.int .i64 n_Kind19, .int .i64 n_Start20, .int .i64 n_V21] →
 ∃ (I2 : Int → Int → World → Prop) (μ2 : Int → Int → World → Nat), I2 (-1 : Int) (0 : Int) w24 ∧ ∀ (at33 : Int) (k26 : Int) (w25 : World), I2 at33 k26 w25 →
 brB (decide (k26 < (order27.len : Int)))
 (∃ J23 : Int → World → Prop, (∀ (at335 : Int) (w32 : World), J23 at335 w32 →
 I2 at335 (wr (k26 + (1 : Int))) w32 ∧ μ2 at335 (wr (k26 + (1 : Int))) w32 < μ2 at33 k26 w25) ∧
 ∀ w28 : World, w28 = World.drew w25 →
 ∃ a29 : Addr, order27.ptr = some a29 ∧ 0 ≤ k26 ∧ k26 < (order27.len : Int) ∧
 ∃ n30 : Int, held (Lw w28) (Addr.add a29 (Int.toNat k26 * 1)) (.int .i64 n30) ∧
 ∃ n31 : Int, held (Lw w28) ⟨b22, 1, none⟩ (.int .i64 n31) ∧
 brB (n30 == n31)
 (J23 k26 w28)
 (J23 at33 w28))
 (∃ J26 : Int → World → Prop, (∀ (v162 : Int) (w37 : World), J26 v162 w37 →
 ∃ J28 : Sl → Sl → World → Prop, (∀ (order93 : Sl) (vals95 : Sl) (w51 : World), J28 order93 vals95 w51 →
 ∃ J35 : Sl → Sl → World → Prop, (∀ (order239 : Sl) (vals334 : Sl) (w227 : World), J35 order239 vals334 w227 →
 Calls Try.prog fn_cache_Cache_Starts #[.pointer p13] w227 fun e228 w229 => ∃ s230 : Sl, e228 = .returned (s230.val) ∧
 Calls Try.prog fn_hollowaybook_Book_Ints #[.pointer (some ⟨b14, 0, none⟩), s230.val] w229 fun e231 w232 => e231 = .returned (.tuple #[]) ∧
 Calls Try.prog fn_cache_Cache_Eldest #[.pointer p13] w232 fun e233 w234 => ∃ n235 : Int, ∃ b236 : Bool, e233 = .returned (.tuple #[.int .i64 n235, .bool b236]) ∧
 ∃ (I4 : Bool → Int → World → Prop) (μ4 : Bool → Int → World → Nat), I4 false (0 : Int) w234 ∧ ∀ (in241 : Bool) (k238 : Int) (w237 : World), I4 in241 k238 w237 →
 brB (decide (k238 < (order239.len : Int)))
 (∃ J68 : Bool → World → Prop, (∀ (in338 : Bool) (w245 : World), J68 in338 w245 →
 I4 in338 (wr (k238 + (1 : Int))) w245 ∧ μ4 in338 (wr (k238 + (1 : Int))) w245 < μ4 in241 k238 w237) ∧
 ∀ w240 : World, w240 = World.drew w237 →
 brB in241
 (J68 true w240)
 (∃ a242 : Addr, order239.ptr = some a242 ∧ 0 ≤ k238 ∧ k238 < (order239.len : Int) ∧
 ∃ n243 : Int, held (Lw w240) (Addr.add a242 (Int.toNat k238 * 1)) (.int .i64 n243) ∧
 ∃ n244 : Int, held (Lw w240) ⟨b22, 1, none⟩ (.int .i64 n244) ∧
 J68 (n243 == n244) w240))
 (∃ J69 : Bool → World → Prop, (∀ (b283 : Bool) (w282 : World), J69 b283 w282 →
 brB b283
 (K (.bool false) w282)
 (I1 order239 vals334 (wr (i17 + (1 : Int))) w282 ∧ μ1 order239 vals334 (wr (i17 + (1 : Int))) w282 < μ1 order27 vals34 i17 w16)) ∧
 Calls Try.prog fn_hollowaybook_SameInts #[s230.val, order239.val] w237 fun e246 w247 => ∃ b248 : Bool, e246 = .returned (.bool b248) ∧
 brB (!b248)
 (J69 true w247)
 (Calls Try.prog fn_cache_Cache_Len #[.pointer p13] w247 fun e249 w250 => ∃ n251 : Int, e249 = .returned (.int .i64 n251) ∧
 brB (n251 != (order239.len : Int))
 (J69 true w250)
 (brB (!(b236 == (decide ((order239.len : Int) > (0 : Int)))))
 (J69 true w250)
 (brB b236
 (∃ a252 : Addr, order239.ptr = some a252 ∧ 0 ≤ (0 : Int) ∧ (0 : Int) < (order239.len : Int) ∧
 ∃ n253 : Int, w250.cell? (Addr.add a252 (Int.toNat (0 : Int) * 1)) = some (.int .i64 n253) ∧
 brB (n235 != n253)
 (J69 true w250)
 (brB (!b236)
 (brB (n235 != (0 : Int))
 (J69 true w250)
 (∃ n254 : Int, w250.cell? ⟨b22, 1, none⟩ = some (.int .i64 n254) ∧
 Calls Try.prog fn_cache_Cache_Has #[.pointer p13, .int .i64 n254] w250 fun e255 w256 => ∃ b257 : Bool, e255 = .returned (.bool b257) ∧
 brB (!(b257 == in241))
 (J69 true w256)
 (Calls Try.prog fn_cache_Cache_Len #[.pointer p13] w256 fun e258 w259 => ∃ n260 : Int, e258 = .returned (.int .i64 n260) ∧
 J69 (decide (n260 > (imin (imax most1 (0 : Int)) (100 : Int)))) w259)))
 (∃ n261 : Int, w250.cell? ⟨b22, 1, none⟩ = some (.int .i64 n261) ∧
 Calls Try.prog fn_cache_Cache_Has #[.pointer p13, .int .i64 n261] w250 fun e262 w263 => ∃ b264 : Bool, e262 = .returned (.bool b264) ∧
 brB (!(b264 == in241))
 (J69 true w263)
 (Calls Try.prog fn_cache_Cache_Len #[.pointer p13] w263 fun e265 w266 => ∃ n267 : Int, e265 = .returned (.int .i64 n267) ∧
 J69 (decide (n267 > (imin (imax most1 (0 : Int)) (100 : Int)))) w266))))
 (brB (!b236)
 (brB (n235 != (0 : Int))
 (J69 true w250)
 (∃ n268 : Int, w250.cell? ⟨b22, 1, none⟩ = some (.int .i64 n268) ∧
 Calls Try.prog fn_cache_Cache_Has #[.pointer p13, .int .i64 n268] w250 fun e269 w270 => ∃ b271 : Bool, e269 = .returned (.bool b271) ∧
 brB (!(b271 == in241))
 (J69 true w270)
 (Calls Try.prog fn_cache_Cache_Len #[.pointer p13] w270 fun e272 w273 => ∃ n274 : Int, e272 = .returned (.int .i64 n274) ∧
 J69 (decide (n274 > (imin (imax most1 (0 : Int)) (100 : Int)))) w273)))
 (∃ n275 : Int, w250.cell? ⟨b22, 1, none⟩ = some (.int .i64 n275) ∧
 Calls Try.prog fn_cache_Cache_Has #[.pointer p13, .int .i64 n275] w250 fun e276 w277 => ∃ b278 : Bool, e276 = .returned (.bool b278) ∧
 brB (!(b278 == in241))
 (J69 true w277)
 (Calls Try.prog fn_cache_Cache_Len #[.pointer p13] w277 fun e279 w280 => ∃ n281 : Int, e279 = .returned (.int .i64 n281) ∧
 J69 (decide (n281 > (imin (imax most1 (0 : Int)) (100 : Int)))) w280)))))))) ∧
 ∃ n52 : Int, w51.cell? ⟨b22, 0, none⟩ = some (.int .i64 n52) ∧
 brB (n52 == (1 : Int))
 (∃ n53 : Int, w51.cell? ⟨b22, 1, none⟩ = some (.int .i64 n53) ∧
 ∃ n54 : Int, w51.cell? ⟨b22, 2, none⟩ = some (.int .i64 n54) ∧
 Calls Try.prog fn_hollowaylaw21_trace #[.int .i64 n53, .int .i64 n54] w51 fun e55 w56 => ∃ n_Start57 : Int, ∃ n_Slots58 : Int, ∃ n_Backs59 : Int, ∃ n_Grow60 : Int, ∃ n_GrowBack61 : Int, ∃ s_Ins62 : Sl, ∃ s_Outs63 : Sl, ∃ n_Last64 : Int, ∃ s_Cells65 : Sl, e55 = .returned (.agg #[.int .i64 n_Start57, .int .i64 n_Slots58, .int .i64 n_Backs59, .int .i64 n_Grow60, .int .i64 n_GrowBack61, s_Ins62.val, s_Outs63.val, .int .i64 n_Last64, s_Cells65.val]) ∧
 ∀ (b66 : Nat) (w67 : World), b66 = w56.heap.size → w67 = World.alloc w56 (.cells #[.int .i64 (0 : Int), .int .i64 (0 : Int), .int .i64 (0 : Int), .int .i64 (0 : Int), .int .i64 (0 : Int), .slice none 0 0, .slice none 0 0, .int .i64 (0 : Int), .slice none 0 0] T_api_Trace) →
 wrOk w67 ⟨b66, 0, none⟩ 9 ∧ ∀ w68 : World, w68 = stW w67 ⟨b66, 0, none⟩ 0 [.int .i64 n_Start57, .int .i64 n_Slots58, .int .i64 n_Backs59, .int .i64 n_Grow60, .int .i64 n_GrowBack61, s_Ins62.val, s_Outs63.val, .int .i64 n_Last64, s_Cells65.val] →
 ∃ n_Start69 : Int, ∃ n_Slots70 : Int, ∃ n_Backs71 : Int, ∃ n_Grow72 : Int, ∃ n_GrowBack73 : Int, ∃ s_Ins74 : Sl, ∃ s_Outs75 : Sl, ∃ n_Last76 : Int, ∃ s_Cells77 : Sl, w68.cell? ⟨b66, 0, none⟩ = some (.int .i64 n_Start69) ∧ w68.cell? ⟨b66, 1, none⟩ = some (.int .i64 n_Slots70) ∧ w68.cell? ⟨b66, 2, none⟩ = some (.int .i64 n_Backs71) ∧ w68.cell? ⟨b66, 3, none⟩ = some (.int .i64 n_Grow72) ∧ w68.cell? ⟨b66, 4, none⟩ = some (.int .i64 n_GrowBack73) ∧ w68.cell? ⟨b66, 5, none⟩ = some (s_Ins74.val) ∧ w68.cell? ⟨b66, 6, none⟩ = some (s_Outs75.val) ∧ w68.cell? ⟨b66, 7, none⟩ = some (.int .i64 n_Last76) ∧ w68.cell? ⟨b66, 8, none⟩ = some (s_Cells77.val) ∧
 Calls Try.prog fn_cache_Cache_Put #[.pointer p13, .agg #[.int .i64 n_Start69, .int .i64 n_Slots70, .int .i64 n_Backs71, .int .i64 n_Grow72, .int .i64 n_GrowBack73, s_Ins74.val, s_Outs75.val, .int .i64 n_Last76, s_Cells77.val]] w68 fun e78 w79 => ∃ s80 : Sl, e78 = .returned (s80.val) ∧
 ∀ w81 : World, w81 = World.drew w79 →
 ∃ S82 : World → Prop, S82 w81 ∧
 ∃ s83 : Sl, held S82 ⟨b66, 5, none⟩ (s83.val) ∧
 ∃ s84 : Sl, held S82 ⟨b66, 8, none⟩ (s84.val) ∧
 ∃ a85 : Addr, s83.ptr = some a85 ∧ 0 ≤ (0 : Int) ∧ (0 : Int) < (s83.len : Int) ∧
 wrOk w81 (Addr.add (Addr.add a85 (Int.toNat (0 : Int) * 5)) 1) 1 ∧ ∀ w86 : World, w86 = stW w81 (Addr.add (Addr.add a85 (Int.toNat (0 : Int) * 5)) 1) 0 [.int .i64 (-9 : Int)] →
 S82 w86 ∧
 ∃ a87 : Addr, s84.ptr = some a87 ∧ 0 ≤ (0 : Int) ∧ (0 : Int) < (s84.len : Int) ∧
 wrOk w86 (Addr.add a87 (Int.toNat (0 : Int) * 1)) 1 ∧ ∀ w88 : World, w88 = stW w86 (Addr.add a87 (Int.toNat (0 : Int) * 1)) 0 [.int .i64 (-9 : Int)] →
 Calls Try.prog fn_hollowaybook_Book_Ints #[.pointer (some ⟨b14, 0, none⟩), s80.val] w88 fun e89 w90 => e89 = .returned (.tuple #[]) ∧
 ∃ J42 : Sl → Sl → World → Prop, (∀ (order336 : Sl) (vals337 : Sl) (w119 : World), J42 order336 vals337 w119 →
 ∃ (I3 : Sl → Sl → Sl → World → Prop) (μ3 : Sl → Sl → Sl → World → Nat), I3 order336 vals337 (⟨none, 0, 0⟩ : Sl) w119 ∧ ∀ (order121 : Sl) (vals130 : Sl) (want122 : Sl) (w120 : World), I3 order121 vals130 want122 w120 →
 brB (decide ((order121.len : Int) > (imin (imax most1 (0 : Int)) (100 : Int))))
 (∃ a123 : Addr, order121.ptr = some a123 ∧ 0 ≤ (0 : Int) ∧ (0 : Int) < (order121.len : Int) ∧
 ∃ n124 : Int, w120.cell? (Addr.add a123 (Int.toNat (0 : Int) * 1)) = some (.int .i64 n124) ∧
 ∀ (b125 : Nat) (w126 : World), b125 = w120.heap.size → w126 = World.alloc w120 (.cells #[.int .i64 n124] T_int) →
 ∃ s127 : Sl, ∃ w128 : World, (Builtin.append_ #[T_sl_int, T_sl_int] T_sl_int #[want122.val, .slice (some ⟨b125, 0, none⟩) 1 1]).run Try.prog w126 = .ok (s127.val) w128 ∧
 ∀ w129 : World, w129 = World.drew w128 →
 0 ≤ (1 : Int) ∧ (1 : Int) ≤ (order121.len : Int) ∧ 
 0 ≤ (1 : Int) ∧ (1 : Int) ≤ (vals130.len : Int) ∧ 
 I3 (Sl.sub order121.ptr order121.cap (Int.toNat (1 : Int)) order121.len 1) (Sl.sub vals130.ptr vals130.cap (Int.toNat (1 : Int)) vals130.len 1) s127 w129 ∧ μ3 (Sl.sub order121.ptr order121.cap (Int.toNat (1 : Int)) order121.len 1) (Sl.sub vals130.ptr vals130.cap (Int.toNat (1 : Int)) vals130.len 1) s127 w129 < μ3 order121 vals130 want122 w120)
 (Calls Try.prog fn_hollowaybook_SameInts #[s80.val, want122.val] w120 fun e131 w132 => ∃ b133 : Bool, e131 = .returned (.bool b133) ∧
 brB (!b133)
 (K (.bool false) w132)
 (J35 order121 vals130 w132))) ∧
 ∀ w91 : World, w91 = World.drew w90 →
 ∃ S92 : World → Prop, S92 w91 ∧
 ∃ n94 : Int, held S92 ⟨b22, 1, none⟩ (.int .i64 n94) ∧
 ∃ n96 : Int, held S92 ⟨b22, 2, none⟩ (.int .i64 n96) ∧
 (∀ (b97 : Nat) (w98 : World), b97 = w91.heap.size → w98 = World.alloc w91 (.cells #[.int .i64 n94] T_int) →
 S92 w98 ∧
 (∃ s99 : Sl, ∃ w100 : World, (Builtin.append_ #[T_sl_int, T_sl_int] T_sl_int #[order93.val, .slice (some ⟨b97, 0, none⟩) 1 1]).run Try.prog w98 = .ok (s99.val) w100 ∧
 S92 w100 ∧
 ∀ (b101 : Nat) (w102 : World), b101 = w100.heap.size → w102 = World.alloc w100 (.cells #[.int .i64 n96] T_int) →
 S92 w102 ∧
 ∃ s103 : Sl, ∃ w104 : World, (Builtin.append_ #[T_sl_int, T_sl_int] T_sl_int #[vals95.val, .slice (some ⟨b101, 0, none⟩) 1 1]).run Try.prog w102 = .ok (s103.val) w104 ∧
 J42 s99 s103 w104) ∧
 (∀ (b105 : Nat) (w106 : World), b105 = w98.heap.size → w106 = World.alloc w98 (.cells #[.int .i64 n96] T_int) →
 S92 w106 ∧
 ∃ s107 : Sl, ∃ w108 : World, (Builtin.append_ #[T_sl_int, T_sl_int] T_sl_int #[order93.val, .slice (some ⟨b97, 0, none⟩) 1 1]).run Try.prog w106 = .ok (s107.val) w108 ∧
 S92 w108 ∧
 ∃ s109 : Sl, ∃ w110 : World, (Builtin.append_ #[T_sl_int, T_sl_int] T_sl_int #[vals95.val, .slice (some ⟨b105, 0, none⟩) 1 1]).run Try.prog w108 = .ok (s109.val) w110 ∧
 J42 s107 s109 w110)) ∧
 (∀ (b111 : Nat) (w112 : World), b111 = w91.heap.size → w112 = World.alloc w91 (.cells #[.int .i64 n96] T_int) →
 S92 w112 ∧
 ∀ (b113 : Nat) (w114 : World), b113 = w112.heap.size → w114 = World.alloc w112 (.cells #[.int .i64 n94] T_int) →
 S92 w114 ∧
 ∃ s115 : Sl, ∃ w116 : World, (Builtin.append_ #[T_sl_int, T_sl_int] T_sl_int #[order93.val, .slice (some ⟨b113, 0, none⟩) 1 1]).run Try.prog w114 = .ok (s115.val) w116 ∧
 S92 w116 ∧
 ∃ s117 : Sl, ∃ w118 : World, (Builtin.append_ #[T_sl_int, T_sl_int] T_sl_int #[vals95.val, .slice (some ⟨b111, 0, none⟩) 1 1]).run Try.prog w116 = .ok (s117.val) w118 ∧
 J42 s115 s117 w118))
 (brB (n52 == (2 : Int))
 (∃ n134 : Int, w51.cell? ⟨b22, 1, none⟩ = some (.int .i64 n134) ∧
 Calls Try.prog fn_cache_Cache_Get #[.pointer p13, .int .i64 n134] w51 fun e135 w136 => ∃ n_Start137 : Int, ∃ n_Slots138 : Int, ∃ n_Backs139 : Int, ∃ n_Grow140 : Int, ∃ n_GrowBack141 : Int, ∃ s_Ins142 : Sl, ∃ s_Outs143 : Sl, ∃ n_Last144 : Int, ∃ s_Cells145 : Sl, ∃ b146 : Bool, e135 = .returned (.tuple #[.agg #[.int .i64 n_Start137, .int .i64 n_Slots138, .int .i64 n_Backs139, .int .i64 n_Grow140, .int .i64 n_GrowBack141, s_Ins142.val, s_Outs143.val, .int .i64 n_Last144, s_Cells145.val], .bool b146]) ∧
 ∀ (b147 : Nat) (w148 : World), b147 = w136.heap.size → w148 = World.alloc w136 (.cells #[.int .i64 (0 : Int), .int .i64 (0 : Int), .int .i64 (0 : Int), .int .i64 (0 : Int), .int .i64 (0 : Int), .slice none 0 0, .slice none 0 0, .int .i64 (0 : Int), .slice none 0 0] T_api_Trace) →
 wrOk w148 ⟨b147, 0, none⟩ 9 ∧ ∀ w149 : World, w149 = stW w148 ⟨b147, 0, none⟩ 0 [.int .i64 n_Start137, .int .i64 n_Slots138, .int .i64 n_Backs139, .int .i64 n_Grow140, .int .i64 n_GrowBack141, s_Ins142.val, s_Outs143.val, .int .i64 n_Last144, s_Cells145.val] →
 ∃ J53 : Bool → World → Prop, (∀ (b202 : Bool) (w201 : World), J53 b202 w201 →
 brB b202
 (K (.bool false) w201)
 (∃ n_Start203 : Int, ∃ n_Slots204 : Int, ∃ n_Backs205 : Int, ∃ n_Grow206 : Int, ∃ n_GrowBack207 : Int, ∃ s_Ins208 : Sl, ∃ s_Outs209 : Sl, ∃ n_Last210 : Int, ∃ s_Cells211 : Sl, w201.cell? ⟨b147, 0, none⟩ = some (.int .i64 n_Start203) ∧ w201.cell? ⟨b147, 1, none⟩ = some (.int .i64 n_Slots204) ∧ w201.cell? ⟨b147, 2, none⟩ = some (.int .i64 n_Backs205) ∧ w201.cell? ⟨b147, 3, none⟩ = some (.int .i64 n_Grow206) ∧ w201.cell? ⟨b147, 4, none⟩ = some (.int .i64 n_GrowBack207) ∧ w201.cell? ⟨b147, 5, none⟩ = some (s_Ins208.val) ∧ w201.cell? ⟨b147, 6, none⟩ = some (s_Outs209.val) ∧ w201.cell? ⟨b147, 7, none⟩ = some (.int .i64 n_Last210) ∧ w201.cell? ⟨b147, 8, none⟩ = some (s_Cells211.val) ∧
 Calls Try.prog fn_hollowaybook_Book_Trace #[.pointer (some ⟨b14, 0, none⟩), .agg #[.int .i64 n_Start203, .int .i64 n_Slots204, .int .i64 n_Backs205, .int .i64 n_Grow206, .int .i64 n_GrowBack207, s_Ins208.val, s_Outs209.val, .int .i64 n_Last210, s_Cells211.val]] w201 fun e212 w213 => e212 = .returned (.tuple #[]) ∧
 brB (decide (at33 ≥ (0 : Int)))
 (∃ n214 : Int, w213.cell? ⟨b22, 1, none⟩ = some (.int .i64 n214) ∧
 ∀ (b215 : Nat) (w216 : World), b215 = w213.heap.size → w216 = World.alloc w213 (.cells #[.int .i64 n214] T_int) →
 ∃ s217 : Sl, ∃ w218 : World, (Builtin.append_ #[T_sl_int, T_sl_int] T_sl_int #[order93.val, .slice (some ⟨b215, 0, none⟩) 1 1]).run Try.prog w216 = .ok (s217.val) w218 ∧
 ∀ (b219 : Nat) (w220 : World), b219 = w218.heap.size → w220 = World.alloc w218 (.cells #[.int .i64 v162] T_int) →
 ∃ s221 : Sl, ∃ w222 : World, (Builtin.append_ #[T_sl_int, T_sl_int] T_sl_int #[vals95.val, .slice (some ⟨b219, 0, none⟩) 1 1]).run Try.prog w220 = .ok (s221.val) w222 ∧
 J35 s217 s221 w222)
 (J35 order93 vals95 w213))) ∧
 ∀ w150 : World, w150 = World.drew w149 →
 ∃ S151 : World → Prop, S151 w150 ∧
 brB (!(b146 == (decide (at33 ≥ (0 : Int)))))
 (J53 true w150)
 (brB b146
 (∃ n_Start152 : Int, ∃ n_Slots153 : Int, ∃ n_Backs154 : Int, ∃ n_Grow155 : Int, ∃ n_GrowBack156 : Int, ∃ s_Ins157 : Sl, ∃ s_Outs158 : Sl, ∃ n_Last159 : Int, ∃ s_Cells160 : Sl, held S151 ⟨b147, 0, none⟩ (.int .i64 n_Start152) ∧ held S151 ⟨b147, 1, none⟩ (.int .i64 n_Slots153) ∧ held S151 ⟨b147, 2, none⟩ (.int .i64 n_Backs154) ∧ held S151 ⟨b147, 3, none⟩ (.int .i64 n_Grow155) ∧ held S151 ⟨b147, 4, none⟩ (.int .i64 n_GrowBack156) ∧ held S151 ⟨b147, 5, none⟩ (s_Ins157.val) ∧ held S151 ⟨b147, 6, none⟩ (s_Outs158.val) ∧ held S151 ⟨b147, 7, none⟩ (.int .i64 n_Last159) ∧ held S151 ⟨b147, 8, none⟩ (s_Cells160.val) ∧
 ∃ n161 : Int, held S151 ⟨b22, 1, none⟩ (.int .i64 n161) ∧
 Calls Try.prog fn_hollowaylaw21_trace #[.int .i64 n161, .int .i64 v162] w150 fun e163 w164 => ∃ n_Start165 : Int, ∃ n_Slots166 : Int, ∃ n_Backs167 : Int, ∃ n_Grow168 : Int, ∃ n_GrowBack169 : Int, ∃ s_Ins170 : Sl, ∃ s_Outs171 : Sl, ∃ n_Last172 : Int, ∃ s_Cells173 : Sl, e163 = .returned (.agg #[.int .i64 n_Start165, .int .i64 n_Slots166, .int .i64 n_Backs167, .int .i64 n_Grow168, .int .i64 n_GrowBack169, s_Ins170.val, s_Outs171.val, .int .i64 n_Last172, s_Cells173.val]) ∧
 S151 w164 ∧
 Calls Try.prog fn_hollowaybook_SameTrace #[.agg #[.int .i64 n_Start152, .int .i64 n_Slots153, .int .i64 n_Backs154, .int .i64 n_Grow155, .int .i64 n_GrowBack156, s_Ins157.val, s_Outs158.val, .int .i64 n_Last159, s_Cells160.val], .agg #[.int .i64 n_Start165, .int .i64 n_Slots166, .int .i64 n_Backs167, .int .i64 n_Grow168, .int .i64 n_GrowBack169, s_Ins170.val, s_Outs171.val, .int .i64 n_Last172, s_Cells173.val]] w164 fun e174 w175 => ∃ b176 : Bool, e174 = .returned (.bool b176) ∧
 S151 w175 ∧
 brB (!b176)
 (J53 true w175)
 (brB (!b146)
 (∃ n_Start177 : Int, ∃ n_Slots178 : Int, ∃ n_Backs179 : Int, ∃ n_Grow180 : Int, ∃ n_GrowBack181 : Int, ∃ s_Ins182 : Sl, ∃ s_Outs183 : Sl, ∃ n_Last184 : Int, ∃ s_Cells185 : Sl, held S151 ⟨b147, 0, none⟩ (.int .i64 n_Start177) ∧ held S151 ⟨b147, 1, none⟩ (.int .i64 n_Slots178) ∧ held S151 ⟨b147, 2, none⟩ (.int .i64 n_Backs179) ∧ held S151 ⟨b147, 3, none⟩ (.int .i64 n_Grow180) ∧ held S151 ⟨b147, 4, none⟩ (.int .i64 n_GrowBack181) ∧ held S151 ⟨b147, 5, none⟩ (s_Ins182.val) ∧ held S151 ⟨b147, 6, none⟩ (s_Outs183.val) ∧ held S151 ⟨b147, 7, none⟩ (.int .i64 n_Last184) ∧ held S151 ⟨b147, 8, none⟩ (s_Cells185.val) ∧
 S151 w175 ∧
 Calls Try.prog fn_hollowaybook_SameTrace #[.agg #[.int .i64 n_Start177, .int .i64 n_Slots178, .int .i64 n_Backs179, .int .i64 n_Grow180, .int .i64 n_GrowBack181, s_Ins182.val, s_Outs183.val, .int .i64 n_Last184, s_Cells185.val], .agg #[.int .i64 (0 : Int), .int .i64 (0 : Int), .int .i64 (0 : Int), .int .i64 (0 : Int), .int .i64 (0 : Int), .slice none 0 0, .slice none 0 0, .int .i64 (0 : Int), .slice none 0 0]] w175 fun e186 w187 => ∃ b188 : Bool, e186 = .returned (.bool b188) ∧
 J53 (!b188) w187)
 (J53 false w175)))
 (brB (!b146)
 (∃ n_Start189 : Int, ∃ n_Slots190 : Int, ∃ n_Backs191 : Int, ∃ n_Grow192 : Int, ∃ n_GrowBack193 : Int, ∃ s_Ins194 : Sl, ∃ s_Outs195 : Sl, ∃ n_Last196 : Int, ∃ s_Cells197 : Sl, held S151 ⟨b147, 0, none⟩ (.int .i64 n_Start189) ∧ held S151 ⟨b147, 1, none⟩ (.int .i64 n_Slots190) ∧ held S151 ⟨b147, 2, none⟩ (.int .i64 n_Backs191) ∧ held S151 ⟨b147, 3, none⟩ (.int .i64 n_Grow192) ∧ held S151 ⟨b147, 4, none⟩ (.int .i64 n_GrowBack193) ∧ held S151 ⟨b147, 5, none⟩ (s_Ins194.val) ∧ held S151 ⟨b147, 6, none⟩ (s_Outs195.val) ∧ held S151 ⟨b147, 7, none⟩ (.int .i64 n_Last196) ∧ held S151 ⟨b147, 8, none⟩ (s_Cells197.val) ∧
 S151 w150 ∧
 Calls Try.prog fn_hollowaybook_SameTrace #[.agg #[.int .i64 n_Start189, .int .i64 n_Slots190, .int .i64 n_Backs191, .int .i64 n_Grow192, .int .i64 n_GrowBack193, s_Ins194.val, s_Outs195.val, .int .i64 n_Last196, s_Cells197.val], .agg #[.int .i64 (0 : Int), .int .i64 (0 : Int), .int .i64 (0 : Int), .int .i64 (0 : Int), .int .i64 (0 : Int), .slice none 0 0, .slice none 0 0, .int .i64 (0 : Int), .slice none 0 0]] w150 fun e198 w199 => ∃ b200 : Bool, e198 = .returned (.bool b200) ∧
 J53 (!b200) w199)
 (J53 false w150))))
 (brB (n52 == (3 : Int))
 (∃ n223 : Int, w51.cell? ⟨b22, 1, none⟩ = some (.int .i64 n223) ∧
 Calls Try.prog fn_cache_Cache_Drop #[.pointer p13, .int .i64 n223] w51 fun e224 w225 => ∃ b226 : Bool, e224 = .returned (.bool b226) ∧
 brB (!(b226 == (decide (at33 ≥ (0 : Int)))))
 (K (.bool false) w225)
 (J35 order93 vals95 w225))
 (J35 order93 vals95 w51)))) ∧
 ∃ n38 : Int, w37.cell? ⟨b22, 0, none⟩ = some (.int .i64 n38) ∧
 ∃ J30 : Bool → World → Prop, (∀ (b40 : Bool) (w39 : World), J30 b40 w39 →
 brB b40
 (brB (decide (at33 ≥ (0 : Int)))
 (∀ w41 : World, w41 = World.drew w39 →
 0 ≤ at33 ∧ at33 ≤ (order27.cap : Int) ∧ 
 0 ≤ (wr (at33 + (1 : Int))) ∧ (wr (at33 + (1 : Int))) ≤ (order27.len : Int) ∧ 
 ∃ s42 : Sl, ∃ w43 : World, (Builtin.append_ #[T_sl_int, T_sl_int] T_sl_int #[.slice none 0 0, (Sl.sub order27.ptr order27.cap 0 (Int.toNat at33) 1).val]).run Try.prog w41 = .ok (s42.val) w43 ∧
 Tt w43 ∧
 ∃ s44 : Sl, ∃ w45 : World, (Builtin.append_ #[T_sl_int, T_sl_int] T_sl_int #[s42.val, (Sl.sub order27.ptr order27.cap (Int.toNat (wr (at33 + (1 : Int)))) order27.len 1).val]).run Try.prog w43 = .ok (s44.val) w45 ∧
 ∀ w46 : World, w46 = World.drew w45 →
 0 ≤ at33 ∧ at33 ≤ (vals34.cap : Int) ∧ 
 0 ≤ (wr (at33 + (1 : Int))) ∧ (wr (at33 + (1 : Int))) ≤ (vals34.len : Int) ∧ 
 ∃ s47 : Sl, ∃ w48 : World, (Builtin.append_ #[T_sl_int, T_sl_int] T_sl_int #[.slice none 0 0, (Sl.sub vals34.ptr vals34.cap 0 (Int.toNat at33) 1).val]).run Try.prog w46 = .ok (s47.val) w48 ∧
 Tt w48 ∧
 ∃ s49 : Sl, ∃ w50 : World, (Builtin.append_ #[T_sl_int, T_sl_int] T_sl_int #[s47.val, (Sl.sub vals34.ptr vals34.cap (Int.toNat (wr (at33 + (1 : Int)))) vals34.len 1).val]).run Try.prog w48 = .ok (s49.val) w50 ∧
 J28 s44 s49 w50)
 (J28 order27 vals34 w39))
 (J28 order27 vals34 w39)) ∧
 brB (n38 == (1 : Int))
 (J30 (n38 == (1 : Int)) w37)
 (brB (n38 == (2 : Int))
 (J30 (n38 == (2 : Int)) w37)
 (J30 (n38 == (3 : Int)) w37))) ∧
 brB (decide (at33 ≥ (0 : Int)))
 (∃ a35 : Addr, vals34.ptr = some a35 ∧ 0 ≤ at33 ∧ at33 < (vals34.len : Int) ∧
 ∃ n36 : Int, w25.cell? (Addr.add a35 (Int.toNat at33 * 1)) = some (.int .i64 n36) ∧
 J26 n36 w25)
 (J26 (0 : Int) w25)))
 (Calls Try.prog fn_cache_Cache_Get #[.pointer none, .int .i64 (1 : Int)] w16 fun e284 w285 => ∃ n_Start286 : Int, ∃ n_Slots287 : Int, ∃ n_Backs288 : Int, ∃ n_Grow289 : Int, ∃ n_GrowBack290 : Int, ∃ s_Ins291 : Sl, ∃ s_Outs292 : Sl, ∃ n_Last293 : Int, ∃ s_Cells294 : Sl, ∃ b295 : Bool, e284 = .returned (.tuple #[.agg #[.int .i64 n_Start286, .int .i64 n_Slots287, .int .i64 n_Backs288, .int .i64 n_Grow289, .int .i64 n_GrowBack290, s_Ins291.val, s_Outs292.val, .int .i64 n_Last293, s_Cells294.val], .bool b295]) ∧
 ∀ (b296 : Nat) (w297 : World), b296 = w285.heap.size → w297 = World.alloc w285 (.cells #[.int .i64 (0 : Int), .int .i64 (0 : Int), .int .i64 (0 : Int), .int .i64 (0 : Int), .int .i64 (0 : Int), .slice none 0 0, .slice none 0 0, .int .i64 (0 : Int), .slice none 0 0] T_api_Trace) →
 wrOk w297 ⟨b296, 0, none⟩ 9 ∧ ∀ w298 : World, w298 = stW w297 ⟨b296, 0, none⟩ 0 [.int .i64 n_Start286, .int .i64 n_Slots287, .int .i64 n_Backs288, .int .i64 n_Grow289, .int .i64 n_GrowBack290, s_Ins291.val, s_Outs292.val, .int .i64 n_Last293, s_Cells294.val] →
 Calls Try.prog fn_cache_Cache_Eldest #[.pointer none] w298 fun e299 w300 => ∃ n301 : Int, ∃ b302 : Bool, e299 = .returned (.tuple #[.int .i64 n301, .bool b302]) ∧
 brB (!b295)
 (brB (!b302)
 (Calls Try.prog fn_hollowaylaw21_trace #[.int .i64 (1 : Int), .int .i64 (1 : Int)] w300 fun e303 w304 => ∃ n_Start305 : Int, ∃ n_Slots306 : Int, ∃ n_Backs307 : Int, ∃ n_Grow308 : Int, ∃ n_GrowBack309 : Int, ∃ s_Ins310 : Sl, ∃ s_Outs311 : Sl, ∃ n_Last312 : Int, ∃ s_Cells313 : Sl, e303 = .returned (.agg #[.int .i64 n_Start305, .int .i64 n_Slots306, .int .i64 n_Backs307, .int .i64 n_Grow308, .int .i64 n_GrowBack309, s_Ins310.val, s_Outs311.val, .int .i64 n_Last312, s_Cells313.val]) ∧
 Calls Try.prog fn_cache_Cache_Put #[.pointer none, .agg #[.int .i64 n_Start305, .int .i64 n_Slots306, .int .i64 n_Backs307, .int .i64 n_Grow308, .int .i64 n_GrowBack309, s_Ins310.val, s_Outs311.val, .int .i64 n_Last312, s_Cells313.val]] w304 fun e314 w315 => ∃ s316 : Sl, e314 = .returned (s316.val) ∧
 Calls Try.prog fn_cache_Cache_Starts #[.pointer none] w315 fun e317 w318 => ∃ s319 : Sl, e317 = .returned (s319.val) ∧
 Calls Try.prog fn_cache_Cache_Len #[.pointer none] w318 fun e320 w321 => ∃ n322 : Int, e320 = .returned (.int .i64 n322) ∧
 brB ((wr ((wr ((s316.len : Int) + (s319.len : Int))) + n322)) == (0 : Int))
 (Calls Try.prog fn_cache_Cache_Has #[.pointer none, .int .i64 (1 : Int)] w321 fun e323 w324 => ∃ b325 : Bool, e323 = .returned (.bool b325) ∧
 brB (!b325)
 (Calls Try.prog fn_cache_Cache_Drop #[.pointer none, .int .i64 (1 : Int)] w324 fun e326 w327 => ∃ b328 : Bool, e326 = .returned (.bool b328) ∧
 brB (!b328)
 (Calls Try.prog fn_hollowaybook_Book_Apart #[.pointer (some ⟨b14, 0, none⟩)] w327 fun e329 w330 => ∃ b331 : Bool, e329 = .returned (.bool b331) ∧
 K (.bool b331) w330)
 (K (.bool false) w327))
 (K (.bool false) w324))
 (K (.bool false) w321))
 (K (.bool false) w300))
 (K (.bool false) w300))))) ∧
 brB (decide ((l_2.len : Int) > (120 : Int)))
 (J3 true w)
 (Calls Try.prog fn_hollowaylaw21_alive #[] w fun e3 w4 => ∃ b5 : Bool, e3 = .returned (.bool b5) ∧
 J3 (!b5) w4)
def hollowaylaw21_CachePlays_an : An := ⟨[(10, [(7, .sl), (8, .sl), (10, .int .i64)]), (15, [(12, .int .i64), (13, .int .i64)]), (37, [(7, .sl), (8, .sl), (17, .sl)]), (57, [(23, .bool), (24, .int .i64)])], [(17, (7, .st 0 (.st 1 (.st 2 (.st 3 (.st 4 (.st 5 (.st 6 .done)))))), 0)), (27, (8, .st 0 (.st 1 (.st 2 (.st 4 (.st 5 (.st 6 (.st 7 (.ef 3 .done))))))), 2)), (28, (8, .st 0 (.st 1 (.st 2 (.st 4 (.st 5 (.st 6 (.st 7 (.ef 3 .done))))))), 2)), (33, (7, .st 0 (.st 1 (.st 2 (.st 3 (.st 4 (.st 5 (.ef 6 .done)))))), 1)), (35, (9, .st 0 (.st 1 (.st 2 (.st 5 (.st 6 (.st 7 (.two 3 (.two 4 (.ef 8 .done) 8 (.ef 4 .done)) 8 (.ef 3 (.ef 4 .done)))))))), 1)), (39, (6, .st 0 (.st 1 (.st 2 (.st 3 (.st 4 (.st 5 .done))))), 0)), (44, (22, .st 0 (.st 1 (.st 2 (.st 3 (.st 4 (.st 5 (.st 6 (.st 7 (.st 8 (.st 9 (.st 10 (.ef 11 (.ef 12 (.st 13 (.st 14 (.st 15 (.st 16 (.st 17 (.st 18 (.st 19 (.st 20 (.ef 21 .done))))))))))))))))))))), 1)), (59, (11, .st 0 (.st 1 (.st 2 (.st 3 (.st 4 (.st 5 (.st 6 (.st 7 (.st 8 (.st 9 (.st 10 .done)))))))))), 0))], [(2, [(36, .bool)]), (16, [(12, .int .i64)]), (26, [(79, .bool)]), (36, [(7, .sl), (8, .sl)]), (45, [(187, .bool)]), (58, [(23, .bool)]), (61, [(286, .bool)]), (52, [(7, .sl), (8, .sl)]), (29, [(7, .sl), (8, .sl)]), (22, [(14, .int .i64)])]⟩
theorem hollowaylaw21_CachePlays_lift {most1 : Int} {l_2 : Sl} {w : World} {K : Value → World → Prop} (h : hollowaylaw21_CachePlays_sh most1 l_2 w K) : Calls Try.prog fn_hollowaylaw21_CachePlays #[.int .i64 most1, l_2.val] w fun e w' => ∃ v, e = .returned v ∧ K v w' :=
   lift_calls (A := hollowaylaw21_CachePlays_an) (c := bodyOf Try.f5) (args := [.int .i64 most1, l_2.val]) orc orc_wide Try.func5 (by kernel_rfl) (by kernel_rfl) (Eq.mp (by kernel_rfl : hollowaylaw21_CachePlays_sh most1 l_2 w K = wpc orc Try.f5.ntmps hollowaylaw21_CachePlays_an (bodyOf Try.f5) (argl 0 [.int .i64 most1, l_2.val]) w (retQ orc Try.f5.results.toList K)) h)

-- holloway/hollowaylaw21.alive
def hollowaylaw21_alive_sh  (w : World) (K : Value → World → Prop) : Prop :=
 Calls Try.prog fn_cache_New #[.int .i64 (1 : Int)] w fun e1 w2 => ∃ p3 : Option Addr, e1 = .returned (.pointer p3) ∧
 brB (Option.isNone p3)
 (K (.bool false) w2)
 (Calls Try.prog fn_hollowaylaw21_trace #[.int .i64 (5 : Int), .int .i64 (1 : Int)] w2 fun e4 w5 => ∃ n_Start6 : Int, ∃ n_Slots7 : Int, ∃ n_Backs8 : Int, ∃ n_Grow9 : Int, ∃ n_GrowBack10 : Int, ∃ s_Ins11 : Sl, ∃ s_Outs12 : Sl, ∃ n_Last13 : Int, ∃ s_Cells14 : Sl, e4 = .returned (.agg #[.int .i64 n_Start6, .int .i64 n_Slots7, .int .i64 n_Backs8, .int .i64 n_Grow9, .int .i64 n_GrowBack10, s_Ins11.val, s_Outs12.val, .int .i64 n_Last13, s_Cells14.val]) ∧
 Calls Try.prog fn_cache_Cache_Put #[.pointer p3, .agg #[.int .i64 n_Start6, .int .i64 n_Slots7, .int .i64 n_Backs8, .int .i64 n_Grow9, .int .i64 n_GrowBack10, s_Ins11.val, s_Outs12.val, .int .i64 n_Last13, s_Cells14.val]] w5 fun e15 w16 => ∃ s17 : Sl, e15 = .returned (s17.val) ∧
 Calls Try.prog fn_hollowaylaw21_trace #[.int .i64 (7 : Int), .int .i64 (2 : Int)] w16 fun e18 w19 => ∃ n_Start20 : Int, ∃ n_Slots21 : Int, ∃ n_Backs22 : Int, ∃ n_Grow23 : Int, ∃ n_GrowBack24 : Int, ∃ s_Ins25 : Sl, ∃ s_Outs26 : Sl, ∃ n_Last27 : Int, ∃ s_Cells28 : Sl, e18 = .returned (.agg #[.int .i64 n_Start20, .int .i64 n_Slots21, .int .i64 n_Backs22, .int .i64 n_Grow23, .int .i64 n_GrowBack24, s_Ins25.val, s_Outs26.val, .int .i64 n_Last27, s_Cells28.val]) ∧
 Calls Try.prog fn_cache_Cache_Put #[.pointer p3, .agg #[.int .i64 n_Start20, .int .i64 n_Slots21, .int .i64 n_Backs22, .int .i64 n_Grow23, .int .i64 n_GrowBack24, s_Ins25.val, s_Outs26.val, .int .i64 n_Last27, s_Cells28.val]] w19 fun e29 w30 => ∃ s31 : Sl, e29 = .returned (s31.val) ∧
 Calls Try.prog fn_cache_Cache_Starts #[.pointer p3] w30 fun e32 w33 => ∃ s34 : Sl, e32 = .returned (s34.val) ∧
 brB ((s17.len : Int) == (0 : Int))
 (brB ((s31.len : Int) == (1 : Int))
 (∃ a35 : Addr, s31.ptr = some a35 ∧ 0 ≤ (0 : Int) ∧ (0 : Int) < (s31.len : Int) ∧
 ∃ n36 : Int, w33.cell? (Addr.add a35 (Int.toNat (0 : Int) * 1)) = some (.int .i64 n36) ∧
 brB (n36 == (5 : Int))
 (brB ((s34.len : Int) == (1 : Int))
 (∃ a37 : Addr, s34.ptr = some a37 ∧ 0 ≤ (0 : Int) ∧ (0 : Int) < (s34.len : Int) ∧
 ∃ n38 : Int, w33.cell? (Addr.add a37 (Int.toNat (0 : Int) * 1)) = some (.int .i64 n38) ∧
 brB (n38 == (7 : Int))
 (Calls Try.prog fn_cache_Cache_Len #[.pointer p3] w33 fun e39 w40 => ∃ n41 : Int, e39 = .returned (.int .i64 n41) ∧
 brB (n41 == (1 : Int))
 (Calls Try.prog fn_cache_Cache_Has #[.pointer p3, .int .i64 (7 : Int)] w40 fun e42 w43 => ∃ b44 : Bool, e42 = .returned (.bool b44) ∧
 K (.bool b44) w43)
 (K (.bool false) w40))
 (K (.bool false) w33))
 (K (.bool false) w33))
 (K (.bool false) w33))
 (K (.bool false) w33))
 (K (.bool false) w33))
def hollowaylaw21_alive_an : An := ⟨[], [], []⟩
theorem hollowaylaw21_alive_lift  {w : World} {K : Value → World → Prop} (h : hollowaylaw21_alive_sh  w K) : Calls Try.prog fn_hollowaylaw21_alive #[] w fun e w' => ∃ v, e = .returned v ∧ K v w' :=
   lift_calls (A := hollowaylaw21_alive_an) (c := bodyOf Try.f12) (args := []) orc orc_wide Try.func12 (by kernel_rfl) (by kernel_rfl) (Eq.mp (by kernel_rfl : hollowaylaw21_alive_sh  w K = wpc orc Try.f12.ntmps hollowaylaw21_alive_an (bodyOf Try.f12) (argl 0 []) w (retQ orc Try.f12.results.toList K)) h)

-- holloway/hollowaylaw21.trace
def hollowaylaw21_trace_sh (start1 : Int) (v_2 : Int) (w : World) (K : Value → World → Prop) : Prop :=
 ∀ (b3 : Nat) (w4 : World), b3 = w.heap.size → w4 = World.alloc w (.cells #[.int .i64 (0 : Int), .int .i64 (0 : Int), .int .i64 (0 : Int), .int .i64 (0 : Int), .int .i64 (0 : Int), .slice none 0 0, .slice none 0 0, .int .i64 (0 : Int), .slice none 0 0] T_api_Trace) →
 ∀ (b5 : Nat) (w6 : World), b5 = w4.heap.size → w6 = World.alloc w4 (.cells #[.int .i64 (1 : Int), .int .i64 v_2, .int .i64 (0 : Int), .int .i64 (0 : Int), .int .i64 (0 : Int)] T_api_Ins) →
 ∀ (b7 : Nat) (w8 : World), b7 = w6.heap.size → w8 = World.alloc w6 (.cells #[.int .i64 (5 : Int), .int .i64 (1 : Int), .slice none 0 0, .slice none 0 0] T_api_Out) →
 ∀ (b9 : Nat) (w10 : World), b9 = w8.heap.size → w10 = World.alloc w8 (.cells #[.int .i64 (1 : Int)] T_int) →
 wrOk w10 ⟨b3, 0, none⟩ 9 ∧ ∀ w11 : World, w11 = stW w10 ⟨b3, 0, none⟩ 0 [.int .i64 start1, .int .i64 (0 : Int), .int .i64 (0 : Int), .int .i64 (0 : Int), .int .i64 (0 : Int), .slice (some ⟨b5, 0, none⟩) 1 1, .slice (some ⟨b7, 0, none⟩) 1 1, .int .i64 (0 : Int), .slice (some ⟨b9, 0, none⟩) 1 1] →
 ∃ r_Start12 : Int, ∃ r_Slots13 : Int, ∃ r_Backs14 : Int, ∃ r_Grow15 : Int, ∃ r_GrowBack16 : Int, ∃ r_Ins17 : Sl, ∃ r_Outs18 : Sl, ∃ r_Last19 : Int, ∃ r_Cells20 : Sl, w11.cell? ⟨b3, 0, none⟩ = some (.int .i64 r_Start12) ∧ w11.cell? ⟨b3, 1, none⟩ = some (.int .i64 r_Slots13) ∧ w11.cell? ⟨b3, 2, none⟩ = some (.int .i64 r_Backs14) ∧ w11.cell? ⟨b3, 3, none⟩ = some (.int .i64 r_Grow15) ∧ w11.cell? ⟨b3, 4, none⟩ = some (.int .i64 r_GrowBack16) ∧ w11.cell? ⟨b3, 5, none⟩ = some (r_Ins17.val) ∧ w11.cell? ⟨b3, 6, none⟩ = some (r_Outs18.val) ∧ w11.cell? ⟨b3, 7, none⟩ = some (.int .i64 r_Last19) ∧ w11.cell? ⟨b3, 8, none⟩ = some (r_Cells20.val) ∧
 K (.agg #[.int .i64 r_Start12, .int .i64 r_Slots13, .int .i64 r_Backs14, .int .i64 r_Grow15, .int .i64 r_GrowBack16, r_Ins17.val, r_Outs18.val, .int .i64 r_Last19, r_Cells20.val]) w11
def hollowaylaw21_trace_an : An := ⟨[], [], []⟩
theorem hollowaylaw21_trace_lift {start1 : Int} {v_2 : Int} {w : World} {K : Value → World → Prop} (h : hollowaylaw21_trace_sh start1 v_2 w K) : Calls Try.prog fn_hollowaylaw21_trace #[.int .i64 start1, .int .i64 v_2] w fun e w' => ∃ v, e = .returned v ∧ K v w' :=
   lift_calls (A := hollowaylaw21_trace_an) (c := bodyOf Try.f15) (args := [.int .i64 start1, .int .i64 v_2]) orc orc_wide Try.func15 (by kernel_rfl) (by kernel_rfl) (Eq.mp (by kernel_rfl : hollowaylaw21_trace_sh start1 v_2 w K = wpc orc Try.f15.ntmps hollowaylaw21_trace_an (bodyOf Try.f15) (argl 0 [.int .i64 start1, .int .i64 v_2]) w (retQ orc Try.f15.results.toList K)) h)

end Go.Proofs.Ytijoigpggphajaa
