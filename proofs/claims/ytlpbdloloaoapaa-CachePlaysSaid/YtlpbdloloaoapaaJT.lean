/- The cache; the book of traces without stacks. -/
import Derived.Test.YtlpbdloloaoapaaJ4
import Derived.Test.YtlpbdloloaoapaaJ2
import Derived.Laws.IdiomCopy
import Derived.Test.YtlpbdloloaoapaaJ6

/- Functions of Cache, read without their frames; that each is enough. Printed by a program of mine (wip/lift/gen.py). -/
set_option maxRecDepth 100000
namespace Go.Proofs.Ytlpbdloloaoapaa
open Go.RowKit

-- holloway/cache.New
def cache_New_sh (most1 : Int) (w : World) (K : Value → World → Prop) : Prop :=
 ∀ (b2 : Nat) (w3 : World), b2 = w.heap.size → w3 = World.alloc w (.cells #[.int .i64 (imin (imax most1 (0 : Int)) (100 : Int)), .slice none 0 0] T_cache_Cache) →
 K (.pointer (some ⟨b2, 0, none⟩)) w3
def cache_New_an : An := ⟨[], [], []⟩
theorem cache_New_lift {most1 : Int} {w : World} {K : Value → World → Prop} (h : cache_New_sh most1 w K) : Calls Try.prog fn_cache_New #[.int .i64 most1] w fun e w' => ∃ v, e = .returned v ∧ K v w' :=
   lift_calls (A := cache_New_an) (c := bodyOf Try.f5) (args := [.int .i64 most1]) orc orc_wide Try.func5 (by kernel_rfl) (by kernel_rfl) (Eq.mp (by kernel_rfl : cache_New_sh most1 w K = wpc orc Try.f5.ntmps cache_New_an (bodyOf Try.f5) (argl 0 [.int .i64 most1]) w (retQ orc Try.f5.results.toList K)) h)

-- (*holloway/cache.Cache).Put
def cache_Cache_Put_sh (c_1 : Nat) (t__Start2 : Int) (t__Slots3 : Int) (t__Backs4 : Int) (t__Grow5 : Int) (t__GrowBack6 : Int) (t__Ins7 : Sl) (t__Outs8 : Sl) (t__Last9 : Int) (t__Cells10 : Sl) (w : World) (K : Value → World → Prop) : Prop :=
 ∀ (b11 : Nat) (w12 : World), b11 = w.heap.size → w12 = World.alloc w (.cells #[.int .i64 t__Start2, .int .i64 t__Slots3, .int .i64 t__Backs4, .int .i64 t__Grow5, .int .i64 t__GrowBack6, t__Ins7.val, t__Outs8.val, .int .i64 t__Last9, t__Cells10.val] T_api_Trace) →
 ∃ n13 : Int, w12.cell? ⟨b11, 0, none⟩ = some (.int .i64 n13) ∧
 Calls Try.prog fn_cache_Cache_place #[.pointer (some ⟨c_1, 0, none⟩), .int .i64 n13] w12 fun e14 w15 => ∃ n16 : Int, e14 = .returned (.int .i64 n16) ∧
 ∃ J7 : World → Prop, (∀ (w22 : World), J7  w22 →
 ∀ w23 : World, w23 = World.drew w22 →
 ∃ S24 : World → Prop, S24 w23 ∧
 ∃ s25 : Sl, held S24 ⟨c_1, 1, none⟩ (s25.val) ∧
 ∃ n_Start26 : Int, ∃ n_Slots27 : Int, ∃ n_Backs28 : Int, ∃ n_Grow29 : Int, ∃ n_GrowBack30 : Int, ∃ s_Ins31 : Sl, ∃ s_Outs32 : Sl, ∃ n_Last33 : Int, ∃ s_Cells34 : Sl, held S24 ⟨b11, 0, none⟩ (.int .i64 n_Start26) ∧ held S24 ⟨b11, 1, none⟩ (.int .i64 n_Slots27) ∧ held S24 ⟨b11, 2, none⟩ (.int .i64 n_Backs28) ∧ held S24 ⟨b11, 3, none⟩ (.int .i64 n_Grow29) ∧ held S24 ⟨b11, 4, none⟩ (.int .i64 n_GrowBack30) ∧ held S24 ⟨b11, 5, none⟩ (s_Ins31.val) ∧ held S24 ⟨b11, 6, none⟩ (s_Outs32.val) ∧ held S24 ⟨b11, 7, none⟩ (.int .i64 n_Last33) ∧ held S24 ⟨b11, 8, none⟩ (s_Cells34.val) ∧
 Calls Try.prog fn_cache_own #[.agg #[.int .i64 n_Start26, .int .i64 n_Slots27, .int .i64 n_Backs28, .int .i64 n_Grow29, .int .i64 n_GrowBack30, s_Ins31.val, s_Outs32.val, .int .i64 n_Last33, s_Cells34.val]] w23 fun e35 w36 => ∃ n_Start37 : Int, ∃ n_Slots38 : Int, ∃ n_Backs39 : Int, ∃ n_Grow40 : Int, ∃ n_GrowBack41 : Int, ∃ s_Ins42 : Sl, ∃ s_Outs43 : Sl, ∃ n_Last44 : Int, ∃ s_Cells45 : Sl, e35 = .returned (.agg #[.int .i64 n_Start37, .int .i64 n_Slots38, .int .i64 n_Backs39, .int .i64 n_Grow40, .int .i64 n_GrowBack41, s_Ins42.val, s_Outs43.val, .int .i64 n_Last44, s_Cells45.val]) ∧
 S24 w36 ∧
 ∀ (b46 : Nat) (w47 : World), b46 = w36.heap.size → w47 = World.alloc w36 (.cells #[.int .i64 n_Start37, .int .i64 n_Slots38, .int .i64 n_Backs39, .int .i64 n_Grow40, .int .i64 n_GrowBack41, s_Ins42.val, s_Outs43.val, .int .i64 n_Last44, s_Cells45.val] T_api_Trace) →
 S24 w47 ∧
 ∃ s48 : Sl, ∃ w49 : World, (Builtin.append_ #[T_sl_api_Trace, T_sl_api_Trace] T_sl_api_Trace #[s25.val, .slice (some ⟨b46, 0, none⟩) 1 1]).run Try.prog w47 = .ok (s48.val) w49 ∧
 S24 w49 ∧
 wrOk w49 ⟨c_1, 1, none⟩ 1 ∧ ∀ w50 : World, w50 = stW w49 ⟨c_1, 1, none⟩ 0 [s48.val] →
 ∃ (I1 : Sl → World → Prop) (μ1 : Sl → World → Nat), I1 (⟨none, 0, 0⟩ : Sl) w50 ∧ ∀ (gone55 : Sl) (w51 : World), I1 gone55 w51 →
 ∀ w52 : World, w52 = World.drew w51 →
 ∃ s53 : Sl, held (Lw w52) ⟨c_1, 1, none⟩ (s53.val) ∧
 ∃ n54 : Int, held (Lw w52) ⟨c_1, 0, none⟩ (.int .i64 n54) ∧
 brB (decide ((s53.len : Int) > n54))
 (∃ s56 : Sl, w52.cell? ⟨c_1, 1, none⟩ = some (s56.val) ∧
 ∃ a57 : Addr, s56.ptr = some a57 ∧ 0 ≤ (0 : Int) ∧ (0 : Int) < (s56.len : Int) ∧
 ∃ n58 : Int, w52.cell? (Addr.add a57 (Int.toNat (0 : Int) * 9)) = some (.int .i64 n58) ∧
 ∀ (b59 : Nat) (w60 : World), b59 = w52.heap.size → w60 = World.alloc w52 (.cells #[.int .i64 n58] T_int) →
 ∃ s61 : Sl, ∃ w62 : World, (Builtin.append_ #[T_sl_int, T_sl_int] T_sl_int #[gone55.val, .slice (some ⟨b59, 0, none⟩) 1 1]).run Try.prog w60 = .ok (s61.val) w62 ∧
 ∃ s63 : Sl, w62.cell? ⟨c_1, 1, none⟩ = some (s63.val) ∧
 0 ≤ (1 : Int) ∧ (1 : Int) ≤ (s63.len : Int) ∧ ∀ s64 : Sl, s64 = Sl.sub s63.ptr s63.cap (Int.toNat (1 : Int)) s63.len 9 →
 wrOk w62 ⟨c_1, 1, none⟩ 1 ∧ ∀ w65 : World, w65 = stW w62 ⟨c_1, 1, none⟩ 0 [s64.val] →
 I1 s61 w65 ∧ μ1 s61 w65 < μ1 gone55 w51)
 (K (gone55.val) w52)) ∧
 brB (decide (n16 ≥ (0 : Int)))
 (∃ s17 : Sl, w15.cell? ⟨c_1, 1, none⟩ = some (s17.val) ∧
 Calls Try.prog fn_slices_Delete_sl_api_Trace_api_Trace #[s17.val, .int .i64 n16, .int .i64 (wr (n16 + (1 : Int)))] w15 fun e18 w19 => ∃ s20 : Sl, e18 = .returned (s20.val) ∧
 wrOk w19 ⟨c_1, 1, none⟩ 1 ∧ ∀ w21 : World, w21 = stW w19 ⟨c_1, 1, none⟩ 0 [s20.val] →
 J7  w21)
 (J7  w15)
def cache_Cache_Put_an : An := ⟨[(8, [(5, .sl)])], [(7, (9, .st 0 (.st 1 (.st 2 (.st 3 (.st 4 (.st 5 (.ef 6 (.ef 7 (.ef 8 .done)))))))), 1)), (8, (10, .st 0 (.st 1 (.st 2 (.st 3 (.st 4 (.st 5 (.st 6 (.st 7 (.st 8 (.st 9 .done))))))))), 0))], [(7, [])]⟩
theorem cache_Cache_Put_lift {c_1 : Nat} {t__Start2 : Int} {t__Slots3 : Int} {t__Backs4 : Int} {t__Grow5 : Int} {t__GrowBack6 : Int} {t__Ins7 : Sl} {t__Outs8 : Sl} {t__Last9 : Int} {t__Cells10 : Sl} {w : World} {K : Value → World → Prop} (h : cache_Cache_Put_sh c_1 t__Start2 t__Slots3 t__Backs4 t__Grow5 t__GrowBack6 t__Ins7 t__Outs8 t__Last9 t__Cells10 w K) : Calls Try.prog fn_cache_Cache_Put #[.pointer (some ⟨c_1, 0, none⟩), .agg #[.int .i64 t__Start2, .int .i64 t__Slots3, .int .i64 t__Backs4, .int .i64 t__Grow5, .int .i64 t__GrowBack6, t__Ins7.val, t__Outs8.val, .int .i64 t__Last9, t__Cells10.val]] w fun e w' => ∃ v, e = .returned v ∧ K v w' :=
   lift_calls (A := cache_Cache_Put_an) (c := bodyOf Try.f7) (args := [.pointer (some ⟨c_1, 0, none⟩), .agg #[.int .i64 t__Start2, .int .i64 t__Slots3, .int .i64 t__Backs4, .int .i64 t__Grow5, .int .i64 t__GrowBack6, t__Ins7.val, t__Outs8.val, .int .i64 t__Last9, t__Cells10.val]]) orc orc_wide Try.func7 (by kernel_rfl) (by kernel_rfl) (Eq.mp (by kernel_rfl : cache_Cache_Put_sh c_1 t__Start2 t__Slots3 t__Backs4 t__Grow5 t__GrowBack6 t__Ins7 t__Outs8 t__Last9 t__Cells10 w K = wpc orc Try.f7.ntmps cache_Cache_Put_an (bodyOf Try.f7) (argl 0 [.pointer (some ⟨c_1, 0, none⟩), .agg #[.int .i64 t__Start2, .int .i64 t__Slots3, .int .i64 t__Backs4, .int .i64 t__Grow5, .int .i64 t__GrowBack6, t__Ins7.val, t__Outs8.val, .int .i64 t__Last9, t__Cells10.val]]) w (retQ orc Try.f7.results.toList K)) h)

-- (*holloway/cache.Cache).Get
def cache_Cache_Get_sh (c_1 : Nat) (start2 : Int) (w : World) (K : Value → World → Prop) : Prop :=
 ∀ (b3 : Nat) (w4 : World), b3 = w.heap.size → w4 = World.alloc w (.cells #[.int .i64 (0 : Int), .int .i64 (0 : Int), .int .i64 (0 : Int), .int .i64 (0 : Int), .int .i64 (0 : Int), .slice none 0 0, .slice none 0 0, .int .i64 (0 : Int), .slice none 0 0] T_api_Trace) →
 Calls Try.prog fn_cache_Cache_place #[.pointer (some ⟨c_1, 0, none⟩), .int .i64 start2] w4 fun e5 w6 => ∃ n7 : Int, e5 = .returned (.int .i64 n7) ∧
 brB (decide (n7 < (0 : Int)))
 (wrOk w6 ⟨b3, 0, none⟩ 9 ∧ ∀ w8 : World, w8 = stW w6 ⟨b3, 0, none⟩ 0 [.int .i64 (0 : Int), .int .i64 (0 : Int), .int .i64 (0 : Int), .int .i64 (0 : Int), .int .i64 (0 : Int), .slice none 0 0, .slice none 0 0, .int .i64 (0 : Int), .slice none 0 0] →
 ∃ r_Start9 : Int, ∃ r_Slots10 : Int, ∃ r_Backs11 : Int, ∃ r_Grow12 : Int, ∃ r_GrowBack13 : Int, ∃ r_Ins14 : Sl, ∃ r_Outs15 : Sl, ∃ r_Last16 : Int, ∃ r_Cells17 : Sl, w8.cell? ⟨b3, 0, none⟩ = some (.int .i64 r_Start9) ∧ w8.cell? ⟨b3, 1, none⟩ = some (.int .i64 r_Slots10) ∧ w8.cell? ⟨b3, 2, none⟩ = some (.int .i64 r_Backs11) ∧ w8.cell? ⟨b3, 3, none⟩ = some (.int .i64 r_Grow12) ∧ w8.cell? ⟨b3, 4, none⟩ = some (.int .i64 r_GrowBack13) ∧ w8.cell? ⟨b3, 5, none⟩ = some (r_Ins14.val) ∧ w8.cell? ⟨b3, 6, none⟩ = some (r_Outs15.val) ∧ w8.cell? ⟨b3, 7, none⟩ = some (.int .i64 r_Last16) ∧ w8.cell? ⟨b3, 8, none⟩ = some (r_Cells17.val) ∧
 K (.tuple #[.agg #[.int .i64 r_Start9, .int .i64 r_Slots10, .int .i64 r_Backs11, .int .i64 r_Grow12, .int .i64 r_GrowBack13, r_Ins14.val, r_Outs15.val, .int .i64 r_Last16, r_Cells17.val], .bool false]) w8)
 (∃ s18 : Sl, w6.cell? ⟨c_1, 1, none⟩ = some (s18.val) ∧
 ∃ a19 : Addr, s18.ptr = some a19 ∧ 0 ≤ n7 ∧ n7 < (s18.len : Int) ∧
 ∃ n_Start20 : Int, ∃ n_Slots21 : Int, ∃ n_Backs22 : Int, ∃ n_Grow23 : Int, ∃ n_GrowBack24 : Int, ∃ s_Ins25 : Sl, ∃ s_Outs26 : Sl, ∃ n_Last27 : Int, ∃ s_Cells28 : Sl, w6.cell? (Addr.add a19 (Int.toNat n7 * 9)) = some (.int .i64 n_Start20) ∧ w6.cell? (Addr.add (Addr.add a19 (Int.toNat n7 * 9)) 1) = some (.int .i64 n_Slots21) ∧ w6.cell? (Addr.add (Addr.add a19 (Int.toNat n7 * 9)) 2) = some (.int .i64 n_Backs22) ∧ w6.cell? (Addr.add (Addr.add a19 (Int.toNat n7 * 9)) 3) = some (.int .i64 n_Grow23) ∧ w6.cell? (Addr.add (Addr.add a19 (Int.toNat n7 * 9)) 4) = some (.int .i64 n_GrowBack24) ∧ w6.cell? (Addr.add (Addr.add a19 (Int.toNat n7 * 9)) 5) = some (s_Ins25.val) ∧ w6.cell? (Addr.add (Addr.add a19 (Int.toNat n7 * 9)) 6) = some (s_Outs26.val) ∧ w6.cell? (Addr.add (Addr.add a19 (Int.toNat n7 * 9)) 7) = some (.int .i64 n_Last27) ∧ w6.cell? (Addr.add (Addr.add a19 (Int.toNat n7 * 9)) 8) = some (s_Cells28.val) ∧
 ∀ (b29 : Nat) (w30 : World), b29 = w6.heap.size → w30 = World.alloc w6 (.cells #[.int .i64 (0 : Int), .int .i64 (0 : Int), .int .i64 (0 : Int), .int .i64 (0 : Int), .int .i64 (0 : Int), .slice none 0 0, .slice none 0 0, .int .i64 (0 : Int), .slice none 0 0] T_api_Trace) →
 wrOk w30 ⟨b29, 0, none⟩ 9 ∧ ∀ w31 : World, w31 = stW w30 ⟨b29, 0, none⟩ 0 [.int .i64 n_Start20, .int .i64 n_Slots21, .int .i64 n_Backs22, .int .i64 n_Grow23, .int .i64 n_GrowBack24, s_Ins25.val, s_Outs26.val, .int .i64 n_Last27, s_Cells28.val] →
 ∃ J7 : World → Prop, (∀ (w60 : World), J7  w60 →
 ∃ n_Start61 : Int, ∃ n_Slots62 : Int, ∃ n_Backs63 : Int, ∃ n_Grow64 : Int, ∃ n_GrowBack65 : Int, ∃ s_Ins66 : Sl, ∃ s_Outs67 : Sl, ∃ n_Last68 : Int, ∃ s_Cells69 : Sl, w60.cell? ⟨b29, 0, none⟩ = some (.int .i64 n_Start61) ∧ w60.cell? ⟨b29, 1, none⟩ = some (.int .i64 n_Slots62) ∧ w60.cell? ⟨b29, 2, none⟩ = some (.int .i64 n_Backs63) ∧ w60.cell? ⟨b29, 3, none⟩ = some (.int .i64 n_Grow64) ∧ w60.cell? ⟨b29, 4, none⟩ = some (.int .i64 n_GrowBack65) ∧ w60.cell? ⟨b29, 5, none⟩ = some (s_Ins66.val) ∧ w60.cell? ⟨b29, 6, none⟩ = some (s_Outs67.val) ∧ w60.cell? ⟨b29, 7, none⟩ = some (.int .i64 n_Last68) ∧ w60.cell? ⟨b29, 8, none⟩ = some (s_Cells69.val) ∧
 Calls Try.prog fn_cache_own #[.agg #[.int .i64 n_Start61, .int .i64 n_Slots62, .int .i64 n_Backs63, .int .i64 n_Grow64, .int .i64 n_GrowBack65, s_Ins66.val, s_Outs67.val, .int .i64 n_Last68, s_Cells69.val]] w60 fun e70 w71 => ∃ n_Start72 : Int, ∃ n_Slots73 : Int, ∃ n_Backs74 : Int, ∃ n_Grow75 : Int, ∃ n_GrowBack76 : Int, ∃ s_Ins77 : Sl, ∃ s_Outs78 : Sl, ∃ n_Last79 : Int, ∃ s_Cells80 : Sl, e70 = .returned (.agg #[.int .i64 n_Start72, .int .i64 n_Slots73, .int .i64 n_Backs74, .int .i64 n_Grow75, .int .i64 n_GrowBack76, s_Ins77.val, s_Outs78.val, .int .i64 n_Last79, s_Cells80.val]) ∧
 wrOk w71 ⟨b3, 0, none⟩ 9 ∧ ∀ w81 : World, w81 = stW w71 ⟨b3, 0, none⟩ 0 [.int .i64 n_Start72, .int .i64 n_Slots73, .int .i64 n_Backs74, .int .i64 n_Grow75, .int .i64 n_GrowBack76, s_Ins77.val, s_Outs78.val, .int .i64 n_Last79, s_Cells80.val] →
 ∃ r_Start82 : Int, ∃ r_Slots83 : Int, ∃ r_Backs84 : Int, ∃ r_Grow85 : Int, ∃ r_GrowBack86 : Int, ∃ r_Ins87 : Sl, ∃ r_Outs88 : Sl, ∃ r_Last89 : Int, ∃ r_Cells90 : Sl, w81.cell? ⟨b3, 0, none⟩ = some (.int .i64 r_Start82) ∧ w81.cell? ⟨b3, 1, none⟩ = some (.int .i64 r_Slots83) ∧ w81.cell? ⟨b3, 2, none⟩ = some (.int .i64 r_Backs84) ∧ w81.cell? ⟨b3, 3, none⟩ = some (.int .i64 r_Grow85) ∧ w81.cell? ⟨b3, 4, none⟩ = some (.int .i64 r_GrowBack86) ∧ w81.cell? ⟨b3, 5, none⟩ = some (r_Ins87.val) ∧ w81.cell? ⟨b3, 6, none⟩ = some (r_Outs88.val) ∧ w81.cell? ⟨b3, 7, none⟩ = some (.int .i64 r_Last89) ∧ w81.cell? ⟨b3, 8, none⟩ = some (r_Cells90.val) ∧
 K (.tuple #[.agg #[.int .i64 r_Start82, .int .i64 r_Slots83, .int .i64 r_Backs84, .int .i64 r_Grow85, .int .i64 r_GrowBack86, r_Ins87.val, r_Outs88.val, .int .i64 r_Last89, r_Cells90.val], .bool true]) w81) ∧
 ∀ w32 : World, w32 = World.drew w31 →
 ∃ S33 : World → Prop, S33 w32 ∧
 ∃ s34 : Sl, held S33 ⟨c_1, 1, none⟩ (s34.val) ∧
 ∃ n_Start35 : Int, ∃ n_Slots36 : Int, ∃ n_Backs37 : Int, ∃ n_Grow38 : Int, ∃ n_GrowBack39 : Int, ∃ s_Ins40 : Sl, ∃ s_Outs41 : Sl, ∃ n_Last42 : Int, ∃ s_Cells43 : Sl, held S33 ⟨b29, 0, none⟩ (.int .i64 n_Start35) ∧ held S33 ⟨b29, 1, none⟩ (.int .i64 n_Slots36) ∧ held S33 ⟨b29, 2, none⟩ (.int .i64 n_Backs37) ∧ held S33 ⟨b29, 3, none⟩ (.int .i64 n_Grow38) ∧ held S33 ⟨b29, 4, none⟩ (.int .i64 n_GrowBack39) ∧ held S33 ⟨b29, 5, none⟩ (s_Ins40.val) ∧ held S33 ⟨b29, 6, none⟩ (s_Outs41.val) ∧ held S33 ⟨b29, 7, none⟩ (.int .i64 n_Last42) ∧ held S33 ⟨b29, 8, none⟩ (s_Cells43.val) ∧
 (Calls Try.prog fn_slices_Delete_sl_api_Trace_api_Trace #[s34.val, .int .i64 n7, .int .i64 (wr (n7 + (1 : Int)))] w32 fun e44 w45 => ∃ s46 : Sl, e44 = .returned (s46.val) ∧
 S33 w45 ∧
 ∀ (b47 : Nat) (w48 : World), b47 = w45.heap.size → w48 = World.alloc w45 (.cells #[.int .i64 n_Start35, .int .i64 n_Slots36, .int .i64 n_Backs37, .int .i64 n_Grow38, .int .i64 n_GrowBack39, s_Ins40.val, s_Outs41.val, .int .i64 n_Last42, s_Cells43.val] T_api_Trace) →
 S33 w48 ∧
 ∃ s49 : Sl, ∃ w50 : World, (Builtin.append_ #[T_sl_api_Trace, T_sl_api_Trace] T_sl_api_Trace #[s46.val, .slice (some ⟨b47, 0, none⟩) 1 1]).run Try.prog w48 = .ok (s49.val) w50 ∧
 S33 w50 ∧
 wrOk w50 ⟨c_1, 1, none⟩ 1 ∧ ∀ w51 : World, w51 = stW w50 ⟨c_1, 1, none⟩ 0 [s49.val] →
 J7  w51) ∧
 (∀ (b52 : Nat) (w53 : World), b52 = w32.heap.size → w53 = World.alloc w32 (.cells #[.int .i64 n_Start35, .int .i64 n_Slots36, .int .i64 n_Backs37, .int .i64 n_Grow38, .int .i64 n_GrowBack39, s_Ins40.val, s_Outs41.val, .int .i64 n_Last42, s_Cells43.val] T_api_Trace) →
 S33 w53 ∧
 Calls Try.prog fn_slices_Delete_sl_api_Trace_api_Trace #[s34.val, .int .i64 n7, .int .i64 (wr (n7 + (1 : Int)))] w53 fun e54 w55 => ∃ s56 : Sl, e54 = .returned (s56.val) ∧
 S33 w55 ∧
 ∃ s57 : Sl, ∃ w58 : World, (Builtin.append_ #[T_sl_api_Trace, T_sl_api_Trace] T_sl_api_Trace #[s56.val, .slice (some ⟨b52, 0, none⟩) 1 1]).run Try.prog w55 = .ok (s57.val) w58 ∧
 S33 w58 ∧
 wrOk w58 ⟨c_1, 1, none⟩ 1 ∧ ∀ w59 : World, w59 = stW w58 ⟨c_1, 1, none⟩ 0 [s57.val] →
 J7  w59))
def cache_Cache_Get_an : An := ⟨[], [(5, (12, .st 0 (.st 1 (.st 2 (.st 3 (.st 4 (.st 5 (.st 6 (.st 7 (.st 9 (.two 8 (.ef 10 (.ef 11 .done)) 10 (.ef 8 (.ef 11 .done))))))))))), 1))], [(6, [])]⟩
theorem cache_Cache_Get_lift {c_1 : Nat} {start2 : Int} {w : World} {K : Value → World → Prop} (h : cache_Cache_Get_sh c_1 start2 w K) : Calls Try.prog fn_cache_Cache_Get #[.pointer (some ⟨c_1, 0, none⟩), .int .i64 start2] w fun e w' => ∃ v, e = .returned v ∧ K v w' :=
   lift_calls (A := cache_Cache_Get_an) (c := bodyOf Try.f10) (args := [.pointer (some ⟨c_1, 0, none⟩), .int .i64 start2]) orc orc_wide Try.func10 (by kernel_rfl) (by kernel_rfl) (Eq.mp (by kernel_rfl : cache_Cache_Get_sh c_1 start2 w K = wpc orc Try.f10.ntmps cache_Cache_Get_an (bodyOf Try.f10) (argl 0 [.pointer (some ⟨c_1, 0, none⟩), .int .i64 start2]) w (retQ orc Try.f10.results.toList K)) h)

-- (*holloway/cache.Cache).Drop
def cache_Cache_Drop_sh (c_1 : Nat) (start2 : Int) (w : World) (K : Value → World → Prop) : Prop :=
 Calls Try.prog fn_cache_Cache_place #[.pointer (some ⟨c_1, 0, none⟩), .int .i64 start2] w fun e3 w4 => ∃ n5 : Int, e3 = .returned (.int .i64 n5) ∧
 brB (decide (n5 < (0 : Int)))
 (K (.bool false) w4)
 (∃ s6 : Sl, w4.cell? ⟨c_1, 1, none⟩ = some (s6.val) ∧
 Calls Try.prog fn_slices_Delete_sl_api_Trace_api_Trace #[s6.val, .int .i64 n5, .int .i64 (wr (n5 + (1 : Int)))] w4 fun e7 w8 => ∃ s9 : Sl, e7 = .returned (s9.val) ∧
 wrOk w8 ⟨c_1, 1, none⟩ 1 ∧ ∀ w10 : World, w10 = stW w8 ⟨c_1, 1, none⟩ 0 [s9.val] →
 K (.bool true) w10)
def cache_Cache_Drop_an : An := ⟨[], [], []⟩
theorem cache_Cache_Drop_lift {c_1 : Nat} {start2 : Int} {w : World} {K : Value → World → Prop} (h : cache_Cache_Drop_sh c_1 start2 w K) : Calls Try.prog fn_cache_Cache_Drop #[.pointer (some ⟨c_1, 0, none⟩), .int .i64 start2] w fun e w' => ∃ v, e = .returned v ∧ K v w' :=
   lift_calls (A := cache_Cache_Drop_an) (c := bodyOf Try.f13) (args := [.pointer (some ⟨c_1, 0, none⟩), .int .i64 start2]) orc orc_wide Try.func13 (by kernel_rfl) (by kernel_rfl) (Eq.mp (by kernel_rfl : cache_Cache_Drop_sh c_1 start2 w K = wpc orc Try.f13.ntmps cache_Cache_Drop_an (bodyOf Try.f13) (argl 0 [.pointer (some ⟨c_1, 0, none⟩), .int .i64 start2]) w (retQ orc Try.f13.results.toList K)) h)

-- (*holloway/cache.Cache).Starts
def cache_Cache_Starts_sh (c_1 : Nat) (w : World) (K : Value → World → Prop) : Prop :=
 ∃ s2 : Sl, w.cell? ⟨c_1, 1, none⟩ = some (s2.val) ∧
 ∃ (I1 : Sl → Int → World → Prop) (μ1 : Sl → Int → World → Nat), I1 (⟨none, 0, 0⟩ : Sl) (0 : Int) w ∧ ∀ (out18 : Sl) (n4 : Int) (w3 : World), I1 out18 n4 w3 →
 brB (decide (n4 < (s2.len : Int)))
 (∃ a5 : Addr, s2.ptr = some a5 ∧ 0 ≤ n4 ∧ n4 < (s2.len : Int) ∧
 ∃ n_Start6 : Int, ∃ n_Slots7 : Int, ∃ n_Backs8 : Int, ∃ n_Grow9 : Int, ∃ n_GrowBack10 : Int, ∃ s_Ins11 : Sl, ∃ s_Outs12 : Sl, ∃ n_Last13 : Int, ∃ s_Cells14 : Sl, w3.cell? (Addr.add a5 (Int.toNat n4 * 9)) = some (.int .i64 n_Start6) ∧ w3.cell? (Addr.add (Addr.add a5 (Int.toNat n4 * 9)) 1) = some (.int .i64 n_Slots7) ∧ w3.cell? (Addr.add (Addr.add a5 (Int.toNat n4 * 9)) 2) = some (.int .i64 n_Backs8) ∧ w3.cell? (Addr.add (Addr.add a5 (Int.toNat n4 * 9)) 3) = some (.int .i64 n_Grow9) ∧ w3.cell? (Addr.add (Addr.add a5 (Int.toNat n4 * 9)) 4) = some (.int .i64 n_GrowBack10) ∧ w3.cell? (Addr.add (Addr.add a5 (Int.toNat n4 * 9)) 5) = some (s_Ins11.val) ∧ w3.cell? (Addr.add (Addr.add a5 (Int.toNat n4 * 9)) 6) = some (s_Outs12.val) ∧ w3.cell? (Addr.add (Addr.add a5 (Int.toNat n4 * 9)) 7) = some (.int .i64 n_Last13) ∧ w3.cell? (Addr.add (Addr.add a5 (Int.toNat n4 * 9)) 8) = some (s_Cells14.val) ∧
 ∀ (b15 : Nat) (w16 : World), b15 = w3.heap.size → w16 = World.alloc w3 (.cells #[.int .i64 (0 : Int), .int .i64 (0 : Int), .int .i64 (0 : Int), .int .i64 (0 : Int), .int .i64 (0 : Int), .slice none 0 0, .slice none 0 0, .int .i64 (0 : Int), .slice none 0 0] T_api_Trace) →
 wrOk w16 ⟨b15, 0, none⟩ 9 ∧ ∀ w17 : World, w17 = stW w16 ⟨b15, 0, none⟩ 0 [.int .i64 n_Start6, .int .i64 n_Slots7, .int .i64 n_Backs8, .int .i64 n_Grow9, .int .i64 n_GrowBack10, s_Ins11.val, s_Outs12.val, .int .i64 n_Last13, s_Cells14.val] →
 ∃ n19 : Int, w17.cell? ⟨b15, 0, none⟩ = some (.int .i64 n19) ∧
 ∀ (b20 : Nat) (w21 : World), b20 = w17.heap.size → w21 = World.alloc w17 (.cells #[.int .i64 n19] T_int) →
 ∃ s22 : Sl, ∃ w23 : World, (Builtin.append_ #[T_sl_int, T_sl_int] T_sl_int #[out18.val, .slice (some ⟨b20, 0, none⟩) 1 1]).run Try.prog w21 = .ok (s22.val) w23 ∧
 I1 s22 (wr (n4 + (1 : Int))) w23 ∧ μ1 s22 (wr (n4 + (1 : Int))) w23 < μ1 out18 n4 w3)
 (K (out18.val) w3)
def cache_Cache_Starts_an : An := ⟨[(4, [(3, .sl), (13, .int .i64)])], [], []⟩
theorem cache_Cache_Starts_lift {c_1 : Nat} {w : World} {K : Value → World → Prop} (h : cache_Cache_Starts_sh c_1 w K) : Calls Try.prog fn_cache_Cache_Starts #[.pointer (some ⟨c_1, 0, none⟩)] w fun e w' => ∃ v, e = .returned v ∧ K v w' :=
   lift_calls (A := cache_Cache_Starts_an) (c := bodyOf Try.f14) (args := [.pointer (some ⟨c_1, 0, none⟩)]) orc orc_wide Try.func14 (by kernel_rfl) (by kernel_rfl) (Eq.mp (by kernel_rfl : cache_Cache_Starts_sh c_1 w K = wpc orc Try.f14.ntmps cache_Cache_Starts_an (bodyOf Try.f14) (argl 0 [.pointer (some ⟨c_1, 0, none⟩)]) w (retQ orc Try.f14.results.toList K)) h)

-- (*holloway/cache.Cache).Eldest
def cache_Cache_Eldest_sh (c_1 : Nat) (w : World) (K : Value → World → Prop) : Prop :=
 Calls Try.prog fn_cache_Cache_Len #[.pointer (some ⟨c_1, 0, none⟩)] w fun e2 w3 => ∃ n4 : Int, e2 = .returned (.int .i64 n4) ∧
 brB (n4 == (0 : Int))
 (K (.tuple #[.int .i64 (0 : Int), .bool false]) w3)
 (∃ s5 : Sl, w3.cell? ⟨c_1, 1, none⟩ = some (s5.val) ∧
 ∃ a6 : Addr, s5.ptr = some a6 ∧ 0 ≤ (0 : Int) ∧ (0 : Int) < (s5.len : Int) ∧
 ∃ n7 : Int, w3.cell? (Addr.add a6 (Int.toNat (0 : Int) * 9)) = some (.int .i64 n7) ∧
 K (.tuple #[.int .i64 n7, .bool true]) w3)
def cache_Cache_Eldest_an : An := ⟨[], [], []⟩
theorem cache_Cache_Eldest_lift {c_1 : Nat} {w : World} {K : Value → World → Prop} (h : cache_Cache_Eldest_sh c_1 w K) : Calls Try.prog fn_cache_Cache_Eldest #[.pointer (some ⟨c_1, 0, none⟩)] w fun e w' => ∃ v, e = .returned v ∧ K v w' :=
   lift_calls (A := cache_Cache_Eldest_an) (c := bodyOf Try.f15) (args := [.pointer (some ⟨c_1, 0, none⟩)]) orc orc_wide Try.func15 (by kernel_rfl) (by kernel_rfl) (Eq.mp (by kernel_rfl : cache_Cache_Eldest_sh c_1 w K = wpc orc Try.f15.ntmps cache_Cache_Eldest_an (bodyOf Try.f15) (argl 0 [.pointer (some ⟨c_1, 0, none⟩)]) w (retQ orc Try.f15.results.toList K)) h)

-- (*holloway/cache.Cache).Len
def cache_Cache_Len_sh (c_1 : Nat) (w : World) (K : Value → World → Prop) : Prop :=
 ∃ s2 : Sl, w.cell? ⟨c_1, 1, none⟩ = some (s2.val) ∧
 K (.int .i64 (s2.len : Int)) w
def cache_Cache_Len_an : An := ⟨[], [], []⟩
theorem cache_Cache_Len_lift {c_1 : Nat} {w : World} {K : Value → World → Prop} (h : cache_Cache_Len_sh c_1 w K) : Calls Try.prog fn_cache_Cache_Len #[.pointer (some ⟨c_1, 0, none⟩)] w fun e w' => ∃ v, e = .returned v ∧ K v w' :=
   lift_calls (A := cache_Cache_Len_an) (c := bodyOf Try.f16) (args := [.pointer (some ⟨c_1, 0, none⟩)]) orc orc_wide Try.func16 (by kernel_rfl) (by kernel_rfl) (Eq.mp (by kernel_rfl : cache_Cache_Len_sh c_1 w K = wpc orc Try.f16.ntmps cache_Cache_Len_an (bodyOf Try.f16) (argl 0 [.pointer (some ⟨c_1, 0, none⟩)]) w (retQ orc Try.f16.results.toList K)) h)

-- (*holloway/cache.Cache).Has
def cache_Cache_Has_sh (c_1 : Nat) (start2 : Int) (w : World) (K : Value → World → Prop) : Prop :=
 Calls Try.prog fn_cache_Cache_place #[.pointer (some ⟨c_1, 0, none⟩), .int .i64 start2] w fun e3 w4 => ∃ n5 : Int, e3 = .returned (.int .i64 n5) ∧
 K (.bool (decide (n5 ≥ (0 : Int)))) w4
def cache_Cache_Has_an : An := ⟨[], [], []⟩
theorem cache_Cache_Has_lift {c_1 : Nat} {start2 : Int} {w : World} {K : Value → World → Prop} (h : cache_Cache_Has_sh c_1 start2 w K) : Calls Try.prog fn_cache_Cache_Has #[.pointer (some ⟨c_1, 0, none⟩), .int .i64 start2] w fun e w' => ∃ v, e = .returned v ∧ K v w' :=
   lift_calls (A := cache_Cache_Has_an) (c := bodyOf Try.f17) (args := [.pointer (some ⟨c_1, 0, none⟩), .int .i64 start2]) orc orc_wide Try.func17 (by kernel_rfl) (by kernel_rfl) (Eq.mp (by kernel_rfl : cache_Cache_Has_sh c_1 start2 w K = wpc orc Try.f17.ntmps cache_Cache_Has_an (bodyOf Try.f17) (argl 0 [.pointer (some ⟨c_1, 0, none⟩), .int .i64 start2]) w (retQ orc Try.f17.results.toList K)) h)

-- (*holloway/cache.Cache).place
def cache_Cache_place_sh (c_1 : Nat) (start2 : Int) (w : World) (K : Value → World → Prop) : Prop :=
 ∀ (b3 : Nat) (w4 : World), b3 = w.heap.size → w4 = World.alloc w (.cells #[.int .i64 start2] T_int) →
 ∃ s5 : Sl, w4.cell? ⟨c_1, 1, none⟩ = some (s5.val) ∧
 Calls Try.prog fn_slices_IndexFunc_sl_api_Trace_api_Trace #[s5.val, .func (.func fn_cache_Cache_place_1) #[] #[.pointer (some ⟨b3, 0, none⟩)]] w4 fun e6 w7 => ∃ n8 : Int, e6 = .returned (.int .i64 n8) ∧
 K (.int .i64 n8) w7
def cache_Cache_place_an : An := ⟨[], [], []⟩
theorem cache_Cache_place_lift {c_1 : Nat} {start2 : Int} {w : World} {K : Value → World → Prop} (h : cache_Cache_place_sh c_1 start2 w K) : Calls Try.prog fn_cache_Cache_place #[.pointer (some ⟨c_1, 0, none⟩), .int .i64 start2] w fun e w' => ∃ v, e = .returned v ∧ K v w' :=
   lift_calls (A := cache_Cache_place_an) (c := bodyOf Try.f19) (args := [.pointer (some ⟨c_1, 0, none⟩), .int .i64 start2]) orc orc_wide Try.func19 (by kernel_rfl) (by kernel_rfl) (Eq.mp (by kernel_rfl : cache_Cache_place_sh c_1 start2 w K = wpc orc Try.f19.ntmps cache_Cache_place_an (bodyOf Try.f19) (argl 0 [.pointer (some ⟨c_1, 0, none⟩), .int .i64 start2]) w (retQ orc Try.f19.results.toList K)) h)

-- holloway/cache.own
def cache_own_sh (t__Start1 : Int) (t__Slots2 : Int) (t__Backs3 : Int) (t__Grow4 : Int) (t__GrowBack5 : Int) (t__Ins6 : Sl) (t__Outs7 : Sl) (t__Last8 : Int) (t__Cells9 : Sl) (w : World) (K : Value → World → Prop) : Prop :=
 ∀ (b10 : Nat) (w11 : World), b10 = w.heap.size → w11 = World.alloc w (.cells #[.int .i64 t__Start1, .int .i64 t__Slots2, .int .i64 t__Backs3, .int .i64 t__Grow4, .int .i64 t__GrowBack5, t__Ins6.val, t__Outs7.val, .int .i64 t__Last8, t__Cells9.val] T_api_Trace) →
 ∀ (b12 : Nat) (w13 : World), b12 = w11.heap.size → w13 = World.alloc w11 (.cells #[.int .i64 (0 : Int), .int .i64 (0 : Int), .int .i64 (0 : Int), .int .i64 (0 : Int), .int .i64 (0 : Int), .slice none 0 0, .slice none 0 0, .int .i64 (0 : Int), .slice none 0 0] T_api_Trace) →
 ∀ w14 : World, w14 = World.drew w13 →
 ∃ S15 : World → Prop, S15 w14 ∧
 ∃ s16 : Sl, held S15 ⟨b10, 5, none⟩ (s16.val) ∧
 ∃ s17 : Sl, held S15 ⟨b10, 6, none⟩ (s17.val) ∧
 ∃ s18 : Sl, held S15 ⟨b10, 8, none⟩ (s18.val) ∧
 Calls Try.prog fn_slices_Clone_sl_api_Ins_api_Ins #[s16.val] w14 fun e19 w20 => ∃ s21 : Sl, e19 = .returned (s21.val) ∧
 S15 w20 ∧
 Calls Try.prog fn_slices_Clone_sl_api_Out_api_Out #[s17.val] w20 fun e22 w23 => ∃ s24 : Sl, e22 = .returned (s24.val) ∧
 S15 w23 ∧
 Calls Try.prog fn_slices_Clone_sl_int_int #[s18.val] w23 fun e25 w26 => ∃ s27 : Sl, e25 = .returned (s27.val) ∧
 S15 w26 ∧
 wrOk w26 ⟨b10, 5, none⟩ 1 ∧ ∀ w28 : World, w28 = stW w26 ⟨b10, 5, none⟩ 0 [s21.val] →
 wrOk w28 ⟨b10, 6, none⟩ 1 ∧ ∀ w29 : World, w29 = stW w28 ⟨b10, 6, none⟩ 0 [s24.val] →
 wrOk w29 ⟨b10, 8, none⟩ 1 ∧ ∀ w30 : World, w30 = stW w29 ⟨b10, 8, none⟩ 0 [s27.val] →
 ∃ s31 : Sl, w30.cell? ⟨b10, 6, none⟩ = some (s31.val) ∧
 ∃ (I1 : Int → World → Prop) (μ1 : Int → World → Nat), I1 (0 : Int) w30 ∧ ∀ (n33 : Int) (w32 : World), I1 n33 w32 →
 brB (decide (n33 < (s31.len : Int)))
 (∀ w34 : World, w34 = World.drew w32 →
 ∃ S35 : World → Prop, S35 w34 ∧
 ∃ s36 : Sl, held S35 ⟨b10, 6, none⟩ (s36.val) ∧
 ∃ s37 : Sl, held S35 ⟨b10, 6, none⟩ (s37.val) ∧
 ∃ s38 : Sl, held S35 ⟨b10, 6, none⟩ (s38.val) ∧
 ∃ a39 : Addr, s38.ptr = some a39 ∧ 0 ≤ n33 ∧ n33 < (s38.len : Int) ∧
 ∃ s40 : Sl, held S35 (Addr.add (Addr.add a39 (Int.toNat n33 * 4)) 2) (s40.val) ∧
 ∃ s41 : Sl, held S35 ⟨b10, 6, none⟩ (s41.val) ∧
 ∃ a42 : Addr, s41.ptr = some a42 ∧ 0 ≤ n33 ∧ n33 < (s41.len : Int) ∧
 ∃ s43 : Sl, held S35 (Addr.add (Addr.add a42 (Int.toNat n33 * 4)) 3) (s43.val) ∧
 Calls Try.prog fn_slices_Clone_sl_int_int #[s40.val] w34 fun e44 w45 => ∃ s46 : Sl, e44 = .returned (s46.val) ∧
 S35 w45 ∧
 Calls Try.prog fn_slices_Clone_sl_int_int #[s43.val] w45 fun e47 w48 => ∃ s49 : Sl, e47 = .returned (s49.val) ∧
 S35 w48 ∧
 ∃ a50 : Addr, s36.ptr = some a50 ∧ 0 ≤ n33 ∧ n33 < (s36.len : Int) ∧
 wrOk w48 (Addr.add (Addr.add a50 (Int.toNat n33 * 4)) 2) 1 ∧ ∀ w51 : World, w51 = stW w48 (Addr.add (Addr.add a50 (Int.toNat n33 * 4)) 2) 0 [s46.val] →
 S35 w51 ∧
 ∃ a52 : Addr, s37.ptr = some a52 ∧ 0 ≤ n33 ∧ n33 < (s37.len : Int) ∧
 wrOk w51 (Addr.add (Addr.add a52 (Int.toNat n33 * 4)) 3) 1 ∧ ∀ w53 : World, w53 = stW w51 (Addr.add (Addr.add a52 (Int.toNat n33 * 4)) 3) 0 [s49.val] →
 I1 (wr (n33 + (1 : Int))) w53 ∧ μ1 (wr (n33 + (1 : Int))) w53 < μ1 n33 w32)
 (∃ n_Start54 : Int, ∃ n_Slots55 : Int, ∃ n_Backs56 : Int, ∃ n_Grow57 : Int, ∃ n_GrowBack58 : Int, ∃ s_Ins59 : Sl, ∃ s_Outs60 : Sl, ∃ n_Last61 : Int, ∃ s_Cells62 : Sl, w32.cell? ⟨b10, 0, none⟩ = some (.int .i64 n_Start54) ∧ w32.cell? ⟨b10, 1, none⟩ = some (.int .i64 n_Slots55) ∧ w32.cell? ⟨b10, 2, none⟩ = some (.int .i64 n_Backs56) ∧ w32.cell? ⟨b10, 3, none⟩ = some (.int .i64 n_Grow57) ∧ w32.cell? ⟨b10, 4, none⟩ = some (.int .i64 n_GrowBack58) ∧ w32.cell? ⟨b10, 5, none⟩ = some (s_Ins59.val) ∧ w32.cell? ⟨b10, 6, none⟩ = some (s_Outs60.val) ∧ w32.cell? ⟨b10, 7, none⟩ = some (.int .i64 n_Last61) ∧ w32.cell? ⟨b10, 8, none⟩ = some (s_Cells62.val) ∧
 wrOk w32 ⟨b12, 0, none⟩ 9 ∧ ∀ w63 : World, w63 = stW w32 ⟨b12, 0, none⟩ 0 [.int .i64 n_Start54, .int .i64 n_Slots55, .int .i64 n_Backs56, .int .i64 n_Grow57, .int .i64 n_GrowBack58, s_Ins59.val, s_Outs60.val, .int .i64 n_Last61, s_Cells62.val] →
 ∃ r_Start64 : Int, ∃ r_Slots65 : Int, ∃ r_Backs66 : Int, ∃ r_Grow67 : Int, ∃ r_GrowBack68 : Int, ∃ r_Ins69 : Sl, ∃ r_Outs70 : Sl, ∃ r_Last71 : Int, ∃ r_Cells72 : Sl, w63.cell? ⟨b12, 0, none⟩ = some (.int .i64 r_Start64) ∧ w63.cell? ⟨b12, 1, none⟩ = some (.int .i64 r_Slots65) ∧ w63.cell? ⟨b12, 2, none⟩ = some (.int .i64 r_Backs66) ∧ w63.cell? ⟨b12, 3, none⟩ = some (.int .i64 r_Grow67) ∧ w63.cell? ⟨b12, 4, none⟩ = some (.int .i64 r_GrowBack68) ∧ w63.cell? ⟨b12, 5, none⟩ = some (r_Ins69.val) ∧ w63.cell? ⟨b12, 6, none⟩ = some (r_Outs70.val) ∧ w63.cell? ⟨b12, 7, none⟩ = some (.int .i64 r_Last71) ∧ w63.cell? ⟨b12, 8, none⟩ = some (r_Cells72.val) ∧
 K (.agg #[.int .i64 r_Start64, .int .i64 r_Slots65, .int .i64 r_Backs66, .int .i64 r_Grow67, .int .i64 r_GrowBack68, r_Ins69.val, r_Outs70.val, .int .i64 r_Last71, r_Cells72.val]) w63)
def cache_own_an : An := ⟨[(3, [(19, .int .i64)])], [(1, (10, .st 0 (.st 1 (.st 3 (.st 4 (.st 6 (.st 7 (.ef 2 (.st 9 (.ef 5 (.ef 8 .done))))))))), 1)), (5, (23, .st 0 (.st 1 (.st 2 (.st 3 (.st 4 (.st 5 (.st 6 (.st 7 (.st 8 (.st 9 (.st 10 (.st 11 (.st 13 (.st 14 (.st 15 (.st 16 (.st 17 (.st 18 (.ef 12 (.ef 19 (.st 20 (.st 21 (.ef 22 .done)))))))))))))))))))))), 1))], []⟩
theorem cache_own_lift {t__Start1 : Int} {t__Slots2 : Int} {t__Backs3 : Int} {t__Grow4 : Int} {t__GrowBack5 : Int} {t__Ins6 : Sl} {t__Outs7 : Sl} {t__Last8 : Int} {t__Cells9 : Sl} {w : World} {K : Value → World → Prop} (h : cache_own_sh t__Start1 t__Slots2 t__Backs3 t__Grow4 t__GrowBack5 t__Ins6 t__Outs7 t__Last8 t__Cells9 w K) : Calls Try.prog fn_cache_own #[.agg #[.int .i64 t__Start1, .int .i64 t__Slots2, .int .i64 t__Backs3, .int .i64 t__Grow4, .int .i64 t__GrowBack5, t__Ins6.val, t__Outs7.val, .int .i64 t__Last8, t__Cells9.val]] w fun e w' => ∃ v, e = .returned v ∧ K v w' :=
   lift_calls (A := cache_own_an) (c := bodyOf Try.f21) (args := [.agg #[.int .i64 t__Start1, .int .i64 t__Slots2, .int .i64 t__Backs3, .int .i64 t__Grow4, .int .i64 t__GrowBack5, t__Ins6.val, t__Outs7.val, .int .i64 t__Last8, t__Cells9.val]]) orc orc_wide Try.func21 (by kernel_rfl) (by kernel_rfl) (Eq.mp (by kernel_rfl : cache_own_sh t__Start1 t__Slots2 t__Backs3 t__Grow4 t__GrowBack5 t__Ins6 t__Outs7 t__Last8 t__Cells9 w K = wpc orc Try.f21.ntmps cache_own_an (bodyOf Try.f21) (argl 0 [.agg #[.int .i64 t__Start1, .int .i64 t__Slots2, .int .i64 t__Backs3, .int .i64 t__Grow4, .int .i64 t__GrowBack5, t__Ins6.val, t__Outs7.val, .int .i64 t__Last8, t__Cells9.val]]) w (retQ orc Try.f21.results.toList K)) h)

-- (*holloway/cache.Cache).place$1
def cache_Cache_place_1_sh (t__Start1 : Int) (t__Slots2 : Int) (t__Backs3 : Int) (t__Grow4 : Int) (t__GrowBack5 : Int) (t__Ins6 : Sl) (t__Outs7 : Sl) (t__Last8 : Int) (t__Cells9 : Sl) (c10 : Nat) (w : World) (K : Value → World → Prop) : Prop :=
 ∀ (b11 : Nat) (w12 : World), b11 = w.heap.size → w12 = World.alloc w (.cells #[.int .i64 t__Start1, .int .i64 t__Slots2, .int .i64 t__Backs3, .int .i64 t__Grow4, .int .i64 t__GrowBack5, t__Ins6.val, t__Outs7.val, .int .i64 t__Last8, t__Cells9.val] T_api_Trace) →
 ∃ n13 : Int, w12.cell? ⟨b11, 0, none⟩ = some (.int .i64 n13) ∧
 ∃ n14 : Int, w12.cell? ⟨c10, 0, none⟩ = some (.int .i64 n14) ∧
 K (.bool (n13 == n14)) w12
def cache_Cache_place_1_an : An := ⟨[], [], []⟩
theorem cache_Cache_place_1_lift {t__Start1 : Int} {t__Slots2 : Int} {t__Backs3 : Int} {t__Grow4 : Int} {t__GrowBack5 : Int} {t__Ins6 : Sl} {t__Outs7 : Sl} {t__Last8 : Int} {t__Cells9 : Sl} {c10 : Nat} {w : World} {K : Value → World → Prop} (h : cache_Cache_place_1_sh t__Start1 t__Slots2 t__Backs3 t__Grow4 t__GrowBack5 t__Ins6 t__Outs7 t__Last8 t__Cells9 c10 w K) : Calls Try.prog fn_cache_Cache_place_1 #[.agg #[.int .i64 t__Start1, .int .i64 t__Slots2, .int .i64 t__Backs3, .int .i64 t__Grow4, .int .i64 t__GrowBack5, t__Ins6.val, t__Outs7.val, .int .i64 t__Last8, t__Cells9.val], .pointer (some ⟨c10, 0, none⟩)] w fun e w' => ∃ v, e = .returned v ∧ K v w' :=
   lift_calls (A := cache_Cache_place_1_an) (c := bodyOf Try.f52) (args := [.agg #[.int .i64 t__Start1, .int .i64 t__Slots2, .int .i64 t__Backs3, .int .i64 t__Grow4, .int .i64 t__GrowBack5, t__Ins6.val, t__Outs7.val, .int .i64 t__Last8, t__Cells9.val], .pointer (some ⟨c10, 0, none⟩)]) orc orc_wide Try.func52 (by kernel_rfl) (by kernel_rfl) (Eq.mp (by kernel_rfl : cache_Cache_place_1_sh t__Start1 t__Slots2 t__Backs3 t__Grow4 t__GrowBack5 t__Ins6 t__Outs7 t__Last8 t__Cells9 c10 w K = wpc orc Try.f52.ntmps cache_Cache_place_1_an (bodyOf Try.f52) (argl 0 [.agg #[.int .i64 t__Start1, .int .i64 t__Slots2, .int .i64 t__Backs3, .int .i64 t__Grow4, .int .i64 t__GrowBack5, t__Ins6.val, t__Outs7.val, .int .i64 t__Last8, t__Cells9.val], .pointer (some ⟨c10, 0, none⟩)]) w (retQ orc Try.f52.results.toList K)) h)

-- (*holloway/cache.Cache).Put:nil
def cache_Cache_Put_nil_sh (t__Start1 : Int) (t__Slots2 : Int) (t__Backs3 : Int) (t__Grow4 : Int) (t__GrowBack5 : Int) (t__Ins6 : Sl) (t__Outs7 : Sl) (t__Last8 : Int) (t__Cells9 : Sl) (w : World) (K : Value → World → Prop) : Prop :=
 ∀ (b10 : Nat) (w11 : World), b10 = w.heap.size → w11 = World.alloc w (.cells #[.int .i64 t__Start1, .int .i64 t__Slots2, .int .i64 t__Backs3, .int .i64 t__Grow4, .int .i64 t__GrowBack5, t__Ins6.val, t__Outs7.val, .int .i64 t__Last8, t__Cells9.val] T_api_Trace) →
 K (.slice none 0 0) w11
def cache_Cache_Put_nil_an : An := ⟨[], [], []⟩
theorem cache_Cache_Put_nil_lift {t__Start1 : Int} {t__Slots2 : Int} {t__Backs3 : Int} {t__Grow4 : Int} {t__GrowBack5 : Int} {t__Ins6 : Sl} {t__Outs7 : Sl} {t__Last8 : Int} {t__Cells9 : Sl} {w : World} {K : Value → World → Prop} (h : cache_Cache_Put_nil_sh t__Start1 t__Slots2 t__Backs3 t__Grow4 t__GrowBack5 t__Ins6 t__Outs7 t__Last8 t__Cells9 w K) : Calls Try.prog fn_cache_Cache_Put #[.pointer none, .agg #[.int .i64 t__Start1, .int .i64 t__Slots2, .int .i64 t__Backs3, .int .i64 t__Grow4, .int .i64 t__GrowBack5, t__Ins6.val, t__Outs7.val, .int .i64 t__Last8, t__Cells9.val]] w fun e w' => ∃ v, e = .returned v ∧ K v w' :=
   lift_calls (A := cache_Cache_Put_nil_an) (c := bodyOf Try.f7) (args := [.pointer none, .agg #[.int .i64 t__Start1, .int .i64 t__Slots2, .int .i64 t__Backs3, .int .i64 t__Grow4, .int .i64 t__GrowBack5, t__Ins6.val, t__Outs7.val, .int .i64 t__Last8, t__Cells9.val]]) orc orc_wide Try.func7 (by kernel_rfl) (by kernel_rfl) (Eq.mp (by kernel_rfl : cache_Cache_Put_nil_sh t__Start1 t__Slots2 t__Backs3 t__Grow4 t__GrowBack5 t__Ins6 t__Outs7 t__Last8 t__Cells9 w K = wpc orc Try.f7.ntmps cache_Cache_Put_nil_an (bodyOf Try.f7) (argl 0 [.pointer none, .agg #[.int .i64 t__Start1, .int .i64 t__Slots2, .int .i64 t__Backs3, .int .i64 t__Grow4, .int .i64 t__GrowBack5, t__Ins6.val, t__Outs7.val, .int .i64 t__Last8, t__Cells9.val]]) w (retQ orc Try.f7.results.toList K)) h)

-- (*holloway/cache.Cache).Get:nil
def cache_Cache_Get_nil_sh (start1 : Int) (w : World) (K : Value → World → Prop) : Prop :=
 ∀ (b2 : Nat) (w3 : World), b2 = w.heap.size → w3 = World.alloc w (.cells #[.int .i64 (0 : Int), .int .i64 (0 : Int), .int .i64 (0 : Int), .int .i64 (0 : Int), .int .i64 (0 : Int), .slice none 0 0, .slice none 0 0, .int .i64 (0 : Int), .slice none 0 0] T_api_Trace) →
 Calls Try.prog fn_cache_Cache_place #[.pointer none, .int .i64 start1] w3 fun e4 w5 => ∃ n6 : Int, e4 = .returned (.int .i64 n6) ∧
 brB (decide (n6 < (0 : Int)))
 (wrOk w5 ⟨b2, 0, none⟩ 9 ∧ ∀ w7 : World, w7 = stW w5 ⟨b2, 0, none⟩ 0 [.int .i64 (0 : Int), .int .i64 (0 : Int), .int .i64 (0 : Int), .int .i64 (0 : Int), .int .i64 (0 : Int), .slice none 0 0, .slice none 0 0, .int .i64 (0 : Int), .slice none 0 0] →
 ∃ r_Start8 : Int, ∃ r_Slots9 : Int, ∃ r_Backs10 : Int, ∃ r_Grow11 : Int, ∃ r_GrowBack12 : Int, ∃ r_Ins13 : Sl, ∃ r_Outs14 : Sl, ∃ r_Last15 : Int, ∃ r_Cells16 : Sl, w7.cell? ⟨b2, 0, none⟩ = some (.int .i64 r_Start8) ∧ w7.cell? ⟨b2, 1, none⟩ = some (.int .i64 r_Slots9) ∧ w7.cell? ⟨b2, 2, none⟩ = some (.int .i64 r_Backs10) ∧ w7.cell? ⟨b2, 3, none⟩ = some (.int .i64 r_Grow11) ∧ w7.cell? ⟨b2, 4, none⟩ = some (.int .i64 r_GrowBack12) ∧ w7.cell? ⟨b2, 5, none⟩ = some (r_Ins13.val) ∧ w7.cell? ⟨b2, 6, none⟩ = some (r_Outs14.val) ∧ w7.cell? ⟨b2, 7, none⟩ = some (.int .i64 r_Last15) ∧ w7.cell? ⟨b2, 8, none⟩ = some (r_Cells16.val) ∧
 K (.tuple #[.agg #[.int .i64 r_Start8, .int .i64 r_Slots9, .int .i64 r_Backs10, .int .i64 r_Grow11, .int .i64 r_GrowBack12, r_Ins13.val, r_Outs14.val, .int .i64 r_Last15, r_Cells16.val], .bool false]) w7)
 (False)
def cache_Cache_Get_nil_an : An := ⟨[], [], []⟩
theorem cache_Cache_Get_nil_lift {start1 : Int} {w : World} {K : Value → World → Prop} (h : cache_Cache_Get_nil_sh start1 w K) : Calls Try.prog fn_cache_Cache_Get #[.pointer none, .int .i64 start1] w fun e w' => ∃ v, e = .returned v ∧ K v w' :=
   lift_calls (A := cache_Cache_Get_nil_an) (c := bodyOf Try.f10) (args := [.pointer none, .int .i64 start1]) orc orc_wide Try.func10 (by kernel_rfl) (by kernel_rfl) (Eq.mp (by kernel_rfl : cache_Cache_Get_nil_sh start1 w K = wpc orc Try.f10.ntmps cache_Cache_Get_nil_an (bodyOf Try.f10) (argl 0 [.pointer none, .int .i64 start1]) w (retQ orc Try.f10.results.toList K)) h)

-- (*holloway/cache.Cache).Has:nil
def cache_Cache_Has_nil_sh (start1 : Int) (w : World) (K : Value → World → Prop) : Prop :=
 Calls Try.prog fn_cache_Cache_place #[.pointer none, .int .i64 start1] w fun e2 w3 => ∃ n4 : Int, e2 = .returned (.int .i64 n4) ∧
 K (.bool (decide (n4 ≥ (0 : Int)))) w3
def cache_Cache_Has_nil_an : An := ⟨[], [], []⟩
theorem cache_Cache_Has_nil_lift {start1 : Int} {w : World} {K : Value → World → Prop} (h : cache_Cache_Has_nil_sh start1 w K) : Calls Try.prog fn_cache_Cache_Has #[.pointer none, .int .i64 start1] w fun e w' => ∃ v, e = .returned v ∧ K v w' :=
   lift_calls (A := cache_Cache_Has_nil_an) (c := bodyOf Try.f17) (args := [.pointer none, .int .i64 start1]) orc orc_wide Try.func17 (by kernel_rfl) (by kernel_rfl) (Eq.mp (by kernel_rfl : cache_Cache_Has_nil_sh start1 w K = wpc orc Try.f17.ntmps cache_Cache_Has_nil_an (bodyOf Try.f17) (argl 0 [.pointer none, .int .i64 start1]) w (retQ orc Try.f17.results.toList K)) h)

-- (*holloway/cache.Cache).Drop:nil
def cache_Cache_Drop_nil_sh (start1 : Int) (w : World) (K : Value → World → Prop) : Prop :=
 Calls Try.prog fn_cache_Cache_place #[.pointer none, .int .i64 start1] w fun e2 w3 => ∃ n4 : Int, e2 = .returned (.int .i64 n4) ∧
 brB (decide (n4 < (0 : Int)))
 (K (.bool false) w3)
 (False)
def cache_Cache_Drop_nil_an : An := ⟨[], [], []⟩
theorem cache_Cache_Drop_nil_lift {start1 : Int} {w : World} {K : Value → World → Prop} (h : cache_Cache_Drop_nil_sh start1 w K) : Calls Try.prog fn_cache_Cache_Drop #[.pointer none, .int .i64 start1] w fun e w' => ∃ v, e = .returned v ∧ K v w' :=
   lift_calls (A := cache_Cache_Drop_nil_an) (c := bodyOf Try.f13) (args := [.pointer none, .int .i64 start1]) orc orc_wide Try.func13 (by kernel_rfl) (by kernel_rfl) (Eq.mp (by kernel_rfl : cache_Cache_Drop_nil_sh start1 w K = wpc orc Try.f13.ntmps cache_Cache_Drop_nil_an (bodyOf Try.f13) (argl 0 [.pointer none, .int .i64 start1]) w (retQ orc Try.f13.results.toList K)) h)

-- (*holloway/cache.Cache).Len:nil
def cache_Cache_Len_nil_sh  (w : World) (K : Value → World → Prop) : Prop :=
 K (.int .i64 (0 : Int)) w
def cache_Cache_Len_nil_an : An := ⟨[], [], []⟩
theorem cache_Cache_Len_nil_lift  {w : World} {K : Value → World → Prop} (h : cache_Cache_Len_nil_sh  w K) : Calls Try.prog fn_cache_Cache_Len #[.pointer none] w fun e w' => ∃ v, e = .returned v ∧ K v w' :=
   lift_calls (A := cache_Cache_Len_nil_an) (c := bodyOf Try.f16) (args := [.pointer none]) orc orc_wide Try.func16 (by kernel_rfl) (by kernel_rfl) (Eq.mp (by kernel_rfl : cache_Cache_Len_nil_sh  w K = wpc orc Try.f16.ntmps cache_Cache_Len_nil_an (bodyOf Try.f16) (argl 0 [.pointer none]) w (retQ orc Try.f16.results.toList K)) h)

-- (*holloway/cache.Cache).Starts:nil
def cache_Cache_Starts_nil_sh  (w : World) (K : Value → World → Prop) : Prop :=
 K (.slice none 0 0) w
def cache_Cache_Starts_nil_an : An := ⟨[], [], []⟩
theorem cache_Cache_Starts_nil_lift  {w : World} {K : Value → World → Prop} (h : cache_Cache_Starts_nil_sh  w K) : Calls Try.prog fn_cache_Cache_Starts #[.pointer none] w fun e w' => ∃ v, e = .returned v ∧ K v w' :=
   lift_calls (A := cache_Cache_Starts_nil_an) (c := bodyOf Try.f14) (args := [.pointer none]) orc orc_wide Try.func14 (by kernel_rfl) (by kernel_rfl) (Eq.mp (by kernel_rfl : cache_Cache_Starts_nil_sh  w K = wpc orc Try.f14.ntmps cache_Cache_Starts_nil_an (bodyOf Try.f14) (argl 0 [.pointer none]) w (retQ orc Try.f14.results.toList K)) h)

-- (*holloway/cache.Cache).Eldest:nil
def cache_Cache_Eldest_nil_sh  (w : World) (K : Value → World → Prop) : Prop :=
 Calls Try.prog fn_cache_Cache_Len #[.pointer none] w fun e1 w2 => ∃ n3 : Int, e1 = .returned (.int .i64 n3) ∧
 brB (n3 == (0 : Int))
 (K (.tuple #[.int .i64 (0 : Int), .bool false]) w2)
 (False)
def cache_Cache_Eldest_nil_an : An := ⟨[], [], []⟩
theorem cache_Cache_Eldest_nil_lift  {w : World} {K : Value → World → Prop} (h : cache_Cache_Eldest_nil_sh  w K) : Calls Try.prog fn_cache_Cache_Eldest #[.pointer none] w fun e w' => ∃ v, e = .returned v ∧ K v w' :=
   lift_calls (A := cache_Cache_Eldest_nil_an) (c := bodyOf Try.f15) (args := [.pointer none]) orc orc_wide Try.func15 (by kernel_rfl) (by kernel_rfl) (Eq.mp (by kernel_rfl : cache_Cache_Eldest_nil_sh  w K = wpc orc Try.f15.ntmps cache_Cache_Eldest_nil_an (bodyOf Try.f15) (argl 0 [.pointer none]) w (retQ orc Try.f15.results.toList K)) h)

-- (*holloway/cache.Cache).place:nil
def cache_Cache_place_nil_sh (start1 : Int) (w : World) (K : Value → World → Prop) : Prop :=
 ∀ (b2 : Nat) (w3 : World), b2 = w.heap.size → w3 = World.alloc w (.cells #[.int .i64 start1] T_int) →
 K (.int .i64 (-1 : Int)) w3
def cache_Cache_place_nil_an : An := ⟨[], [], []⟩
theorem cache_Cache_place_nil_lift {start1 : Int} {w : World} {K : Value → World → Prop} (h : cache_Cache_place_nil_sh start1 w K) : Calls Try.prog fn_cache_Cache_place #[.pointer none, .int .i64 start1] w fun e w' => ∃ v, e = .returned v ∧ K v w' :=
   lift_calls (A := cache_Cache_place_nil_an) (c := bodyOf Try.f19) (args := [.pointer none, .int .i64 start1]) orc orc_wide Try.func19 (by kernel_rfl) (by kernel_rfl) (Eq.mp (by kernel_rfl : cache_Cache_place_nil_sh start1 w K = wpc orc Try.f19.ntmps cache_Cache_place_nil_an (bodyOf Try.f19) (argl 0 [.pointer none, .int .i64 start1]) w (retQ orc Try.f19.results.toList K)) h)

end Go.Proofs.Ytlpbdloloaoapaa

/- Traces as the cache holds them (exits without stacks): what their lists read as; slices.Clone; cache.own. -/
set_option maxRecDepth 100000
namespace Go.Proofs.Ytlpbdloloaoapaa
open Go.RowKit

structure In5 where
  a : Int
  b : Int
  c : Int
  d : Int
  e : Int
def insE : Enc In5 := ⟨T_api_Ins, 5, 40, fun x => [.int .i64 x.a, .int .i64 x.b, .int .i64 x.c, .int .i64 x.d, .int .i64 x.e], by intro x; rfl, by intro x u hu; simp at hu; rcases hu with rfl | rfl | rfl | rfl | rfl <;> rfl, by decide⟩
theorem insOk : EncOk Try.prog insE T_sl_api_Ins := EncOk.of (z := .agg #[.int .i64 0, .int .i64 0, .int .i64 0, .int .i64 0, .int .i64 0]) (by kernel_rfl) (by kernel_rfl) (by kernel_rfl)
/-- An exit without stacks: where to, behind how many steps. -/
def ouE : Enc (Int × Int) := ⟨T_api_Out, 4, 64, fun x => [.int .i64 x.1, .int .i64 x.2, .slice none 0 0, .slice none 0 0], by intro x; rfl, by intro x u hu; simp at hu; rcases hu with rfl | rfl | rfl <;> rfl, by decide⟩
theorem ouOk : EncOk Try.prog ouE T_sl_api_Out := EncOk.of (z := .agg #[.int .i64 0, .int .i64 0, .slice none 0 0, .slice none 0 0]) (by kernel_rfl) (by kernel_rfl) (by kernel_rfl)
structure Tr where
  start : Int
  slots : Int
  backs : Int
  grow : Int
  growBack : Int
  ins : Sl
  outs : Sl
  last : Int
  cells : Sl
def trC (t : Tr) : List Value := [.int .i64 t.start, .int .i64 t.slots, .int .i64 t.backs, .int .i64 t.grow, .int .i64 t.growBack, t.ins.val, t.outs.val, .int .i64 t.last, t.cells.val]
theorem sl_one (s : Sl) : s.val.oneCell' = true := by rw [val_eq]; rfl
def trE : Enc Tr := ⟨T_api_Trace, 9, 120, trC, by intro x; rfl, by intro x u hu; simp [trC] at hu; rcases hu with rfl | rfl | rfl | rfl | rfl | rfl | rfl | rfl | rfl <;> first | rfl | exact sl_one _, by decide⟩
def tr0 : Tr := ⟨0, 0, 0, 0, 0, nilS, nilS, 0, nilS⟩
theorem trOk : EncOk Try.prog trE T_sl_api_Trace := EncOk.of (z := .agg #[.int .i64 0, .int .i64 0, .int .i64 0, .int .i64 0, .int .i64 0, .slice none 0 0, .slice none 0 0, .int .i64 0, .slice none 0 0]) (by kernel_rfl) (by kernel_rfl) (by kernel_rfl)
/-- What a trace says. -/
structure TrV where
  start : Int
  slots : Int
  backs : Int
  grow : Int
  growBack : Int
  ins : List In5
  outs : List (Int × Int)
  last : Int
  cells : List Int
/-- t says v, and its lists lie in blocks of D. -/
structure TrIs (D : Nat → Prop) (w : World) (t : Tr) (v : TrV) : Prop where
  nums : t.start = v.start ∧ t.slots = v.slots ∧ t.backs = v.backs ∧ t.grow = v.grow ∧ t.growBack = v.growBack ∧ t.last = v.last
  ins : Rd insE w t.ins v.ins
  outs : Rd ouE w t.outs v.outs
  cells : Rd intE w t.cells v.cells
  insD : ∀ k, t.ins.blk = some k → D k
  outsD : ∀ k, t.outs.blk = some k → D k
  cellsD : ∀ k, t.cells.blk = some k → D k
theorem TrIs.chg {D S : Nat → Prop} {w w' : World} {t : Tr} {v : TrV} (h : TrIs D w t v) (c : Chg S w w') (hS : ∀ k, D k → ¬ S k) : TrIs D w' t v :=
  ⟨h.nums, h.ins.chg c (fun k hk => hS _ (h.insD k hk)), h.outs.chg c (fun k hk => hS _ (h.outsD k hk)), h.cells.chg c (fun k hk => hS _ (h.cellsD k hk)), h.insD, h.outsD, h.cellsD⟩
theorem TrIs.no {D : Nat → Prop} {w w' : World} {t : Tr} {v : TrV} (h : TrIs D w t v) (c : Chg No w w') : TrIs D w' t v := h.chg c (fun _ _ h => h)
theorem TrIs.wid {D C : Nat → Prop} {w : World} {t : Tr} {v : TrV} (h : TrIs D w t v) (hc : ∀ k, D k → C k) : TrIs C w t v :=
  ⟨h.nums, h.ins, h.outs, h.cells, fun k hk => hc _ (h.insD k hk), fun k hk => hc _ (h.outsD k hk), fun k hk => hc _ (h.cellsD k hk)⟩
/-- Lists of such a length can be grown. -/
def SmV (v : TrV) : Prop := v.ins.length ≤ 1000000000 ∧ v.outs.length ≤ 1000000000 ∧ v.cells.length ≤ 1000000000
theorem clone_ins {w : World} {s : Sl} {xs : List In5} (h : Rd insE w s xs) (hsm : xs.length ≤ 1000000000) : Calls Try.prog fn_slices_Clone_sl_api_Ins_api_Ins #[s.val] w fun e w' => ∃ s' : Sl, e = .returned s'.val ∧ Ow insE w' s' xs ∧ Chg No w w' ∧ (∀ k, s'.blk = some k → w.heap.size ≤ k) := by
  refine (slices_Clone_sl_api_Ins_api_Ins_lift (K := fun v w' => ∃ s' : Sl, v = s'.val ∧ Ow insE w' s' xs ∧ Chg No w w' ∧ (∀ k, s'.blk = some k → w.heap.size ≤ k)) ?_).mono (by rintro e w' ⟨v, rfl, s', rfl, h⟩; exact ⟨s', rfl, h⟩)
  unfold slices_Clone_sl_api_Ins_api_Ins_sh
  exact clone_core (K := fun v w' => ∃ s' : Sl, v = s'.val ∧ Ow insE w' s' xs ∧ Chg No w w' ∧ (∀ k, s'.blk = some k → w.heap.size ≤ k)) insOk (by decide) h hsm fun s' w' h1 h2 h3 _ => ⟨s', rfl, h1, h2, h3⟩
theorem clone_outs {w : World} {s : Sl} {xs : List (Int × Int)} (h : Rd ouE w s xs) (hsm : xs.length ≤ 1000000000) : Calls Try.prog fn_slices_Clone_sl_api_Out_api_Out #[s.val] w fun e w' => ∃ s' : Sl, e = .returned s'.val ∧ Ow ouE w' s' xs ∧ Chg No w w' ∧ (∀ k, s'.blk = some k → w.heap.size ≤ k) := by
  refine (slices_Clone_sl_api_Out_api_Out_lift (K := fun v w' => ∃ s' : Sl, v = s'.val ∧ Ow ouE w' s' xs ∧ Chg No w w' ∧ (∀ k, s'.blk = some k → w.heap.size ≤ k)) ?_).mono (by rintro e w' ⟨v, rfl, s', rfl, h⟩; exact ⟨s', rfl, h⟩)
  unfold slices_Clone_sl_api_Out_api_Out_sh
  exact clone_core (K := fun v w' => ∃ s' : Sl, v = s'.val ∧ Ow ouE w' s' xs ∧ Chg No w w' ∧ (∀ k, s'.blk = some k → w.heap.size ≤ k)) ouOk (by decide) h hsm fun s' w' h1 h2 h3 _ => ⟨s', rfl, h1, h2, h3⟩
/-- The same value written again. -/
theorem Ox.again {α : Type} {E : Enc α} {w : World} {s : Sl} {xs : List α} (h : Ox E w s xs) {a : Addr} {u : Value} (hu : w.cell? a = some u) : Ox E (stW w a 0 [u]) s xs := by
  have he : stW w a 0 [u] = w.setCell a u := by
    show w.setCell (a.add 0) u = _
    rw [show a.add 0 = a from by unfold Addr.add; simp]
  have hc : ∀ q, (stW w a 0 [u]).cell? q = w.cell? q := by
    intro q
    rw [he]
    by_cases hq : a = q
    · subst hq; rw [World.cell?_setCell_same _ _ _ hu, hu]
    · exact World.cell?_setCell_other _ _ _ _ hq
  refine ⟨?_, fun b hb => ⟨(h.room b hb).1, fun j hj => ?_⟩, fun k hk => by rw [he]; have := h.lt k hk; simpa using this⟩
  · obtain ⟨ao, cap, h1, h2, h3, h4, h5⟩ := h.rd
    exact ⟨ao, cap, h1, h2, h3, h4, fun j x hx => by obtain ⟨b, hb, hcell⟩ := h5 j x hx; exact ⟨b, hb, by rw [hc]; exact hcell⟩⟩
  · obtain ⟨h1, h2⟩ := (h.room b hb).2 j hj
    refine ⟨by rw [hc]; exact h1, ?_⟩
    rw [he, World.frozen?_setCell]; exact h2
end Go.Proofs.Ytlpbdloloaoapaa

/- cache.own: a trace with lists of its own. -/
set_option maxRecDepth 100000
namespace Go.Proofs.Ytlpbdloloaoapaa
open Go.RowKit

theorem Ow.lenOf {α : Type} {E : Enc α} {w : World} {s : Sl} {xs : List α} (h : Ow E w s xs) : s.len = xs.length := h.rd.len
theorem trC_put (t : Tr) (a b c : Sl) : wrL (wrL (wrL (trC t) 5 [a.val]) 6 [b.val]) 8 [c.val] = trC { t with ins := a, outs := b, cells := c } := rfl
theorem trC_whole (a b : Tr) : wrL (trC a) 0 (trC b) = trC b := wrL_whole rfl
/-- t says v; its lists are its own, each in a block of its own, of D. -/
structure TrX (D : Nat → Prop) (w : World) (t : Tr) (v : TrV) : Prop where
  nums : t.start = v.start ∧ t.slots = v.slots ∧ t.backs = v.backs ∧ t.grow = v.grow ∧ t.growBack = v.growBack ∧ t.last = v.last
  ins : Ox insE w t.ins v.ins
  outs : Ox ouE w t.outs v.outs
  cells : Ox intE w t.cells v.cells
  insD : ∀ k, t.ins.blk = some k → D k ∧ t.outs.blk ≠ some k ∧ t.cells.blk ≠ some k
  outsD : ∀ k, t.outs.blk = some k → D k ∧ t.cells.blk ≠ some k
  cellsD : ∀ k, t.cells.blk = some k → D k
theorem TrX.is {D : Nat → Prop} {w : World} {t : Tr} {v : TrV} (h : TrX D w t v) : TrIs D w t v := ⟨h.nums, h.ins.rd, h.outs.rd, h.cells.rd, fun k hk => (h.insD k hk).1, fun k hk => (h.outsD k hk).1, h.cellsD⟩
theorem TrX.chg {D S : Nat → Prop} {w w' : World} {t : Tr} {v : TrV} (h : TrX D w t v) (c : Chg S w w') (hS : ∀ k, D k → ¬ S k) : TrX D w' t v :=
  ⟨h.nums, h.ins.chg c (fun k hk => hS _ (h.insD k hk).1), h.outs.chg c (fun k hk => hS _ (h.outsD k hk).1), h.cells.chg c (fun k hk => hS _ (h.cellsD k hk)), h.insD, h.outsD, h.cellsD⟩
theorem TrX.no {D : Nat → Prop} {w w' : World} {t : Tr} {v : TrV} (h : TrX D w t v) (c : Chg No w w') : TrX D w' t v := h.chg c (fun _ _ h => h)
theorem TrX.wid {D C : Nat → Prop} {w : World} {t : Tr} {v : TrV} (h : TrX D w t v) (hc : ∀ k, D k → C k) : TrX C w t v :=
  ⟨h.nums, h.ins, h.outs, h.cells, fun k hk => ⟨hc _ (h.insD k hk).1, (h.insD k hk).2⟩, fun k hk => ⟨hc _ (h.outsD k hk).1, (h.outsD k hk).2⟩, fun k hk => hc _ (h.cellsD k hk)⟩
theorem own_x (t : Tr) (v : TrV) (w : World) (D : Nat → Prop) (h : TrIs D w t v) (hsm : SmV v) : Calls Try.prog fn_cache_own #[.agg (trC t).toArray] w fun e w' => ∃ t' : Tr, e = .returned (.agg (trC t').toArray) ∧ TrX (fun k => w.heap.size ≤ k ∧ k < w'.heap.size) w' t' v ∧ Chg No w w' := by
  refine (cache_own_lift (K := fun r w' => ∃ t' : Tr, r = .agg (trC t').toArray ∧ TrX (fun k => w.heap.size ≤ k ∧ k < w'.heap.size) w' t' v ∧ Chg No w w') ?_).mono (by rintro e w' ⟨v, rfl, t', rfl, h⟩; exact ⟨t', rfl, h⟩)
  have tr : ∀ {x y z : World}, Chg No x y → Chg No y z → Chg No x z := fun h k => h.trans k (fun _ _ h => h) (fun _ _ h => h)
  unfold cache_own_sh
  intro b10 w11 hb10 hw11
  have ho11 : Ob w11 b10 (trC t) T_api_Trace := by rw [hw11, hb10]; exact Ob.new w (trC t) T_api_Trace
  have c11 : Chg No w w11 := by rw [hw11]; exact Chg.alloc _ _ _
  intro b12 w13 hb12 hw13
  have hz13 : Ob w13 b12 (trC tr0) T_api_Trace := by rw [hw13, hb12]; exact Ob.new w11 (trC tr0) T_api_Trace
  have c13 : Chg No w11 w13 := by rw [hw13]; exact Chg.alloc _ _ _
  intro w14 hw14
  have c14 : Chg No w13 w14 := by rw [hw14]; exact Chg.drew _ _
  have hz14 := hz13.no c14
  have ho14 := (ho11.no c13).no c14
  have cw14 := tr (tr c11 c13) c14
  have h14 := h.no cw14
  have hb10' : b10 < b12 := by rw [hb12]; exact ho11.lt
  have hlt12 := hz14.lt
  refine ⟨fun w' => Ob w' b10 (trC t) T_api_Trace, ho14, t.ins, fun w' hw' => hw'.cell rfl, t.outs, fun w' hw' => hw'.cell rfl, t.cells, fun w' hw' => hw'.cell rfl, ?_⟩
  refine (clone_ins h14.ins hsm.1).mono ?_
  rintro e w20 ⟨s21, rfl, h21, c20, f21⟩
  refine ⟨s21, rfl, ho14.no c20, ?_⟩
  refine (clone_outs (h14.no c20).outs hsm.2.1).mono ?_
  rintro e w23 ⟨s24, rfl, h24, c23, f24⟩
  refine ⟨s24, rfl, (ho14.no c20).no c23, ?_⟩
  refine (clone_ints ((h14.no c20).no c23).cells hsm.2.2).mono ?_
  rintro e w26 ⟨s27, rfl, h27, c26, f27, _⟩
  have ho26 := ((ho14.no c20).no c23).no c26
  have s14 := cw14.size
  have s20 := c20.size
  have s23 := c23.size
  have s26 := c26.size
  have l21 : ∀ k, s21.blk = some k → k < w20.heap.size := fun k hk => h21.lt hk
  have l24 : ∀ k, s24.blk = some k → k < w23.heap.size := fun k hk => h24.lt hk
  refine ⟨s27, rfl, ho26, ho26.wr (by simp [trC]), ?_⟩
  intro w28 hw28
  have ho28 := Ob.st (vs := [s21.val]) (k := 5) (i := 0) ho26
  rw [← hw28] at ho28
  have c28 : Chg (fun k => k = b10) w26 w28 := by rw [hw28]; exact Chg.st (S := fun k => k = b10) rfl
  refine ⟨ho28.wr (by simp [trC, wrL]), ?_⟩
  intro w29 hw29
  have ho29 := Ob.st (vs := [s24.val]) (k := 6) (i := 0) ho28
  rw [← hw29] at ho29
  have c29 : Chg (fun k => k = b10) w28 w29 := by rw [hw29]; exact Chg.st (S := fun k => k = b10) rfl
  refine ⟨ho29.wr (by simp [trC, wrL]), ?_⟩
  intro w30 hw30
  have ho30 := Ob.st (vs := [s27.val]) (k := 8) (i := 0) ho29
  rw [← hw30] at ho30
  have c30 : Chg (fun k => k = b10) w29 w30 := by rw [hw30]; exact Chg.st (S := fun k => k = b10) rfl
  obtain ⟨t1, ht1⟩ : ∃ t1 : Tr, t1 = { t with ins := s21, outs := s24, cells := s27 } := ⟨_, rfl⟩
  have hput := trC_put t s21 s24 s27
  rw [← ht1] at hput
  have ho30' : Ob w30 b10 (trC t1) T_api_Trace := by rw [← hput]; exact ho30
  have cb : Chg (fun k => k = b10) w26 w30 := (c28.trans c29 (fun _ _ h => h) (fun _ _ h => h)).trans c30 (fun _ _ h => h) (fun _ _ h => h)
  have cw26 := tr (tr (tr cw14 c20) c23) c26
  have cw30 : Chg No w w30 := cw26.trans cb (fun _ _ h => h) (fun k hk he => by omega)
  have s30 := cb.size
  have x24 : Ox ouE w30 s24 v.outs := (((h24.no c26).chg cb (fun k hk he => by have := f24 k hk; omega))).ox
  have x21 : Ow insE w30 s21 v.ins := ((h21.no c23).no c26).chg cb (fun k hk he => by have := f21 k hk; omega)
  have x27 : Ow intE w30 s27 v.cells := h27.chg cb (fun k hk he => by have := f27 k hk; omega)
  have hz30 : Ob w30 b12 (trC tr0) T_api_Trace := (((hz14.no c20).no c23).no c26).chg cb (fun he => by omega)
  refine ⟨s24, by rw [ht1] at ho30'; exact ho30'.cell rfl, ?_⟩
  have hlen := h24.lenOf
  have hcap := h24.rd.capL
  refine ⟨fun n w' => ∃ k : Nat, n = k ∧ k ≤ v.outs.length ∧ Ob w' b10 (trC t1) T_api_Trace ∧ Ob w' b12 (trC tr0) T_api_Trace ∧ Ox ouE w' s24 v.outs ∧ Ow insE w' s21 v.ins ∧ Ow intE w' s27 v.cells ∧ Chg No w w' ∧ w30.heap.size ≤ w'.heap.size, fun n _ => v.outs.length - n.toNat, ⟨0, rfl, Nat.zero_le _, ho30', hz30, x24, x21, x27, cw30, Nat.le_refl _⟩, ?_⟩
  rintro n w32 ⟨k, rfl, hk, i10, i12, i24, i21, i27, cw, hsz⟩
  refine brB_of (fun hlt => ?_) (fun hlt => ?_)
  · have hlt : k < v.outs.length := by simp at hlt; omega
    intro w34 hw34
    have q34 : Chg No w32 w34 := by rw [hw34]; exact Chg.drew _ _
    obtain ⟨x, hx⟩ : ∃ x, v.outs[k]? = some x := ⟨_, List.getElem?_eq_getElem hlt⟩
    have hx' : v.outs[(k : Int).toNat]? = some x := by rw [Int.toNat_natCast]; exact hx
    have S10 := i10.no q34
    have S24 := i24.no q34
    have hcellA : ∀ y : World, Ob y b10 (trC t1) T_api_Trace → y.cell? ⟨b10, 6, none⟩ = some s24.val := fun y hy => by rw [ht1] at hy; exact hy.cell rfl
    refine ⟨fun w' => Ob w' b10 (trC t1) T_api_Trace ∧ Ox ouE w' s24 v.outs, ⟨S10, S24⟩, s24, fun w' hw' => hcellA w' hw'.1, s24, fun w' hw' => hcellA w' hw'.1, s24, fun w' hw' => hcellA w' hw'.1, ?_⟩
    refine S24.rd.ix (by omega) hx' fun a ha hcell => ?_
    have hat : ∀ y : World, Ox ouE y s24 v.outs → ∀ j u, (ouE.e x)[j]? = some u → y.cell? ((a.add ((k : Int).toNat * ouE.sz)).add j) = some u := by
      intro y hy j u hu
      obtain ⟨a', ha', hc⟩ := hy.rd.at hx
      rw [ha] at ha'; cases ha'
      rw [Int.toNat_natCast]; exact hc j u hu
    refine ⟨nilS, fun w' hw' => hat w' hw'.2 2 _ rfl, s24, fun w' hw' => hcellA w' hw'.1, a, ha, by omega, by omega, nilS, fun w' hw' => hat w' hw'.2 3 _ rfl, ?_⟩
    have S21 := i21.no q34
    have S27 := i27.no q34
    have S12 := i12.no q34
    refine (clone_ints (Rd.nil intE w34) (Nat.zero_le _)).mono ?_
    rintro e w45 ⟨s46, rfl, _, c45, _, n46⟩
    obtain rfl := n46 rfl
    refine ⟨nilS, rfl, ⟨S10.no c45, S24.no c45⟩, ?_⟩
    refine (clone_ints (Rd.nil intE w45) (Nat.zero_le _)).mono ?_
    rintro e w48 ⟨s49, rfl, _, c48, _, n49⟩
    obtain rfl := n49 rfl
    have T10 := (S10.no c45).no c48
    have T24 := (S24.no c45).no c48
    have T21 := (S21.no c45).no c48
    have T27 := (S27.no c45).no c48
    have T12 := (S12.no c45).no c48
    have cw48 : Chg No w w48 := tr (tr (tr cw q34) c45) c48
    have hsz48 : w30.heap.size ≤ w48.heap.size := by have := q34.size; have := c45.size; have := c48.size; omega
    refine ⟨nilS, rfl, ⟨T10, T24⟩, a, ha, by omega, by omega, ?_⟩
    have hbl : s24.blk = some a.block := blk_ptr ha
    have ne10 : a.block ≠ b10 := by have := f24 _ hbl; omega
    have ne12 : a.block ≠ b12 := by have := f24 _ hbl; omega
    have new24 : w.heap.size ≤ a.block := by have := f24 _ hbl; omega
    have again : ∀ (j : Nat) (y : World), j < 4 → (ouE.e x)[j]? = some nilS.val → Ob y b10 (trC t1) T_api_Trace → Ob y b12 (trC tr0) T_api_Trace → Ox ouE y s24 v.outs → Ow insE y s21 v.ins → Ow intE y s27 v.cells → Chg No w y → w30.heap.size ≤ y.heap.size →
        wrOk y ((a.add ((k : Int).toNat * 4)).add j) 1 ∧ ∀ z : World, z = stW y ((a.add ((k : Int).toNat * 4)).add j) 0 [nilS.val] → Ob z b10 (trC t1) T_api_Trace ∧ Ob z b12 (trC tr0) T_api_Trace ∧ Ox ouE z s24 v.outs ∧ Ow insE z s21 v.ins ∧ Ow intE z s27 v.cells ∧ Chg No w z ∧ w30.heap.size ≤ z.heap.size := by
      intro j y hj hu y10 y12 y24 y21 y27 cy sy
      have hcl := hat y y24 j _ hu
      have hcy : Chg (fun k => k = a.block) y (stW y ((a.add ((k : Int).toNat * 4)).add j) 0 [nilS.val]) := Chg.st (S := fun k => k = a.block) (by rw [add_block, add_block])
      refine ⟨?_, ?_⟩
      · intro i hi
        have hi0 : i = 0 := by omega
        subst hi0
        have e0 : ∀ q : Addr, q.add 0 = q := fun q => by unfold Addr.add; simp
        refine ⟨⟨_, by rw [e0]; exact hcl⟩, ?_⟩
        rw [e0, add_add, Int.toNat_natCast]
        have hcp := y24.rd.capL
        have hmul : (k + 1) * 4 ≤ s24.cap * 4 := Nat.mul_le_mul_right _ (by omega)
        refine ((y24.room a ha).2 _ ?_).2
        show k * 4 + j < s24.cap * 4
        omega
      · rintro z rfl
        refine ⟨y10.chg hcy (fun he => ne10 he.symm), y12.chg hcy (fun he => ne12 he.symm), y24.again hcl, ?_, ?_, cy.trans hcy (fun _ _ h => h) (fun i hi he => by omega), Nat.le_trans sy hcy.size⟩
        · refine y21.chg hcy (fun i hi he => ?_)
          have := l21 i hi; have := f24 _ hbl; omega
        · refine y27.chg hcy (fun i hi he => ?_)
          have := f27 i hi; have := l24 _ hbl; omega
    obtain ⟨g1, g2⟩ := again 2 w48 (by omega) rfl T10 T12 T24 T21 T27 cw48 hsz48
    refine ⟨g1, fun w51 hw51 => ?_⟩
    obtain ⟨U10, U12, U24, U21, U27, cw51, hs51⟩ := g2 w51 hw51
    obtain ⟨g3, g4⟩ := again 3 w51 (by omega) rfl U10 U12 U24 U21 U27 cw51 hs51
    refine ⟨⟨U10, U24⟩, a, ha, by omega, by omega, g3, fun w53 hw53 => ?_⟩
    obtain ⟨V10, V12, V24, V21, V27, cw53, hs53⟩ := g4 w53 hw53
    rw [wr_of (by omega) (by omega)]
    exact ⟨⟨k + 1, by omega, by omega, V10, V12, V24, V21, V27, cw53, hs53⟩, by show v.outs.length - Int.toNat ((k : Int) + 1) < v.outs.length - Int.toNat (k : Int); omega⟩
  · refine ⟨t1.start, t1.slots, t1.backs, t1.grow, t1.growBack, t1.ins, t1.outs, t1.last, t1.cells, i10.cell rfl, i10.cell rfl, i10.cell rfl, i10.cell rfl, i10.cell rfl, i10.cell rfl, i10.cell rfl, i10.cell rfl, i10.cell rfl, i12.wr (by simp [trC]), ?_⟩
    intro w63 hw63
    have j12 : Ob w63 b12 (trC t1) T_api_Trace := by
      have := Ob.st (vs := trC t1) (k := 0) (i := 0) i12
      rw [trC_whole] at this
      rw [hw63]; exact this
    have c63 : Chg (fun k => k = b12) w32 w63 := by rw [hw63]; exact Chg.st (S := fun k => k = b12) rfl
    refine ⟨t1.start, t1.slots, t1.backs, t1.grow, t1.growBack, t1.ins, t1.outs, t1.last, t1.cells, j12.cell rfl, j12.cell rfl, j12.cell rfl, j12.cell rfl, j12.cell rfl, j12.cell rfl, j12.cell rfl, j12.cell rfl, j12.cell rfl, t1, rfl, ?_, ?_⟩
    · have s63 := c63.size
      have n1 := h.nums
      subst ht1
      have l27 : ∀ k, s27.blk = some k → k < w26.heap.size := fun k hk => h27.lt hk
      refine ⟨n1, (i21.chg c63 (fun i hi he => ?_)).ox, i24.chg c63 (fun i hi he => ?_), (i27.chg c63 (fun i hi he => ?_)).ox, fun i hi => ⟨?_, fun he => ?_, fun he => ?_⟩, fun i hi => ⟨?_, fun he => ?_⟩, fun i hi => ?_⟩
      · have := f21 i hi; omega
      · have := f24 i hi; omega
      · have := f27 i hi; omega
      · have := f21 i hi; have := l21 i hi; omega
      · have := l21 i hi; have := f24 i he; omega
      · have := l21 i hi; have := f27 i he; omega
      · have := f24 i hi; have := l24 i hi; omega
      · have := l24 i hi; have := f27 i he; omega
      · have := f27 i hi; have := l27 i hi; omega
    · refine cw.trans c63 (fun _ _ h => h) (fun i hi he => by omega)
theorem own_any (t : Tr) (v : TrV) (w : World) (D : Nat → Prop) (h : TrIs D w t v) (hsm : SmV v) : Calls Try.prog fn_cache_own #[.agg (trC t).toArray] w fun e w' => ∃ t' : Tr, e = .returned (.agg (trC t').toArray) ∧ TrIs (fun k => w.heap.size ≤ k ∧ k < w'.heap.size) w' t' v ∧ Chg No w w' := (own_x t v w D h hsm).mono (by rintro e w' ⟨t', rfl, ht, hc⟩; exact ⟨t', rfl, ht.is, hc⟩)
end Go.Proofs.Ytlpbdloloaoapaa

/- The cache: what it holds; place, Len, Has, New; slices.Delete. -/
set_option maxRecDepth 100000
namespace Go.Proofs.Ytlpbdloloaoapaa
open Go.RowKit

/-- Cache c holds the traces vs, the eldest first; all of it lies in blocks of B. -/
def CAt (B : Nat → Prop) (w : World) (c : Nat) (most : Int) (vs : List TrV) : Prop :=
  ∃ (s : Sl) (l : List Tr), Ob w c [.int .i64 most, s.val] T_cache_Cache ∧ Ox trE w s l ∧ B c ∧ (∀ k, s.blk = some k → B k ∧ k ≠ c) ∧ l.length = vs.length ∧
    ∀ (i : Nat) (t : Tr) (v : TrV), l[i]? = some t → vs[i]? = some v → TrIs (fun k => B k ∧ k < w.heap.size ∧ k ≠ c ∧ s.blk ≠ some k) w t v ∧ SmV v
theorem CAt.chg {B S : Nat → Prop} {w w' : World} {c : Nat} {most : Int} {vs : List TrV} (h : CAt B w c most vs) (k : Chg S w w') (hS : ∀ k, B k → ¬ S k) : CAt B w' c most vs := by
  obtain ⟨s, l, h1, h2, h3, h4, h5, h6⟩ := h
  refine ⟨s, l, h1.chg k (hS _ h3), h2.chg k (fun j hj => hS _ (h4 j hj).1), h3, h4, h5, fun i t v hi hv => ?_⟩
  obtain ⟨a, b⟩ := h6 i t v hi hv
  exact ⟨(a.chg k (fun j hj => hS _ hj.1)).wid (fun j hj => ⟨hj.1, Nat.lt_of_lt_of_le hj.2.1 k.size, hj.2.2⟩), b⟩
theorem CAt.no {B : Nat → Prop} {w w' : World} {c : Nat} {most : Int} {vs : List TrV} (h : CAt B w c most vs) (k : Chg No w w') : CAt B w' c most vs := h.chg k (fun _ _ h => h)
theorem CAt.nar {B : Nat → Prop} {w : World} {c : Nat} {most : Int} {vs : List TrV} (h : CAt B w c most vs) : CAt (fun k => B k ∧ k < w.heap.size) w c most vs := by
  obtain ⟨s, l, h1, h2, h3, h4, h5, h6⟩ := h
  refine ⟨s, l, h1, h2, ⟨h3, h1.lt⟩, fun k hk => ⟨⟨(h4 k hk).1, h2.lt k hk⟩, (h4 k hk).2⟩, h5, fun i t v hi hv => ?_⟩
  obtain ⟨a, b⟩ := h6 i t v hi hv
  exact ⟨a.wid (fun j hj => ⟨⟨hj.1, hj.2.1⟩, hj.2⟩), b⟩
theorem CAt.wid {B C : Nat → Prop} {w : World} {c : Nat} {most : Int} {vs : List TrV} (h : CAt B w c most vs) (hc : ∀ k, B k → C k) : CAt C w c most vs := by
  obtain ⟨s, l, h1, h2, h3, h4, h5, h6⟩ := h
  refine ⟨s, l, h1, h2, hc _ h3, fun k hk => ⟨hc _ (h4 k hk).1, (h4 k hk).2⟩, h5, fun i t v hi hv => ?_⟩
  obtain ⟨a, b⟩ := h6 i t v hi hv
  exact ⟨a.wid (fun j hj => ⟨hc _ hj.1, hj.2⟩), b⟩
theorem starts_eq {D : Nat → Prop} {w : World} {l : List Tr} {vs : List TrV} (h5 : l.length = vs.length) (h6 : ∀ (i : Nat) (t : Tr) (v : TrV), l[i]? = some t → vs[i]? = some v → TrIs D w t v ∧ SmV v) : l.map (·.start) = vs.map (·.start) := by
  refine List.ext_getElem? fun i => ?_
  rw [List.getElem?_map, List.getElem?_map]
  by_cases hi : i < l.length
  · rw [List.getElem?_eq_getElem hi, List.getElem?_eq_getElem (by omega)]
    have := (h6 i _ _ (List.getElem?_eq_getElem hi) (List.getElem?_eq_getElem (by omega))).1.nums.1
    simp [this]
  · rw [List.getElem?_eq_none (by omega), List.getElem?_eq_none (by omega)]; rfl
/-- Where x stands in xs; -1: nowhere. -/
def PlaceS (x : Int) (xs : List Int) (n : Int) : Prop := (n = -1 ∧ x ∉ xs) ∨ ∃ k : Nat, n = k ∧ xs[k]? = some x ∧ ∀ j : Nat, j < k → xs[j]? ≠ some x
theorem clos_any (t : Tr) (b : Nat) (x : Int) (w : World) (h : Ob w b [.int .i64 x] T_int) : Calls Try.prog fn_cache_Cache_place_1 #[.agg (trC t).toArray, .pointer (some ⟨b, 0, none⟩)] w fun e w' => e = .returned (.bool (t.start == x)) ∧ Chg No w w' := by
  refine (cache_Cache_place_1_lift (K := fun v w' => v = .bool (t.start == x) ∧ Chg No w w') ?_).mono (by rintro e w' ⟨v, rfl, rfl, h⟩; exact ⟨rfl, h⟩)
  unfold cache_Cache_place_1_sh
  intro b11 w12 hb hw
  have ho : Ob w12 b11 (trC t) T_api_Trace := by rw [hw, hb]; exact Ob.new w (trC t) T_api_Trace
  have hc : Chg No w w12 := by rw [hw]; exact Chg.alloc _ _ _
  exact ⟨_, ho.cell rfl, _, (h.no hc).cell rfl, rfl, hc⟩
theorem index_any {w : World} {s : Sl} {l : List Tr} (h : Rd trE w s l) (b : Nat) (x : Int) (ho : Ob w b [.int .i64 x] T_int) : Calls Try.prog fn_slices_IndexFunc_sl_api_Trace_api_Trace #[s.val, .func (.func fn_cache_Cache_place_1) #[] #[.pointer (some ⟨b, 0, none⟩)]] w fun e w' => ∃ n : Int, e = .returned (.int .i64 n) ∧ PlaceS x (l.map (·.start)) n ∧ Chg No w w' := by
  refine (slices_IndexFunc_sl_api_Trace_api_Trace_at_cache_Cache_place_1_lift (K := fun v w' => ∃ n : Int, v = .int .i64 n ∧ PlaceS x (l.map (·.start)) n ∧ Chg No w w') ?_).mono (by rintro e w' ⟨v, rfl, n, rfl, h⟩; exact ⟨n, rfl, h⟩)
  unfold slices_IndexFunc_sl_api_Trace_api_Trace_at_cache_Cache_place_1_sh
  have hlen := h.len
  have hcap := h.capL
  have e0 : ∀ q : Addr, q.add 0 = q := fun q => by unfold Addr.add; simp
  refine ⟨fun n w' => ∃ k : Nat, n = k ∧ k ≤ l.length ∧ (∀ j : Nat, j < k → (l.map (·.start))[j]? ≠ some x) ∧ Chg No w w', fun n _ => l.length - n.toNat, ⟨0, rfl, Nat.zero_le _, fun j h => by omega, Chg.refl _ _⟩, ?_⟩
  rintro n w3 ⟨k, rfl, hk, hj, hc⟩
  refine brB_of (fun hlt => ?_) (fun hlt => ?_)
  · have hlt : k < l.length := by simp at hlt; omega
    obtain ⟨t, ht⟩ : ∃ t, l[k]? = some t := ⟨_, List.getElem?_eq_getElem hlt⟩
    refine (h.no hc).ix (by omega) (by rw [Int.toNat_natCast]; exact ht) fun a ha hcell => ?_
    have c0 := hcell 0 _ rfl
    rw [e0] at c0
    refine ⟨_, _, _, _, _, t.ins, t.outs, _, t.cells, c0, hcell 1 _ rfl, hcell 2 _ rfl, hcell 3 _ rfl, hcell 4 _ rfl, hcell 5 _ rfl, hcell 6 _ rfl, hcell 7 _ rfl, hcell 8 _ rfl, ?_⟩
    refine ⟨_, _, _, rfl, orc.sok fn_cache_Cache_place_1 _ rfl, (clos_any t b x w3 (ho.no hc)).mono ?_⟩
    rintro e w16 ⟨rfl, hc16⟩
    have hc2 := hc.trans hc16 (U := No) (fun _ _ h => h) (fun _ _ h => h)
    have hm : (l.map (·.start))[k]? = some t.start := by rw [List.getElem?_map, ht]; rfl
    refine ⟨_, rfl, brB_of (fun he => ?_) (fun he => ?_)⟩
    · have he : t.start = x := by simpa using he
      exact ⟨_, rfl, Or.inr ⟨k, rfl, by rw [hm, he], hj⟩, hc2⟩
    · have he : t.start ≠ x := by simpa using he
      rw [wr_of (by omega) (by omega)]
      refine ⟨⟨k + 1, by omega, by omega, fun j hj' => ?_, hc2⟩, by show l.length - Int.toNat ((k : Int) + 1) < l.length - Int.toNat (k : Int); omega⟩
      rcases Nat.lt_succ_iff_lt_or_eq.1 hj' with h2 | rfl
      · exact hj j h2
      · rw [hm]; intro h3; exact he (Option.some.inj h3)
  · have hlt : k = l.length := by simp at hlt; omega
    subst hlt
    refine ⟨-1, rfl, Or.inl ⟨rfl, fun hm => ?_⟩, hc⟩
    obtain ⟨j, hj1, hj2⟩ := List.mem_iff_getElem.1 hm
    exact hj j (by simpa using hj1) (by rw [List.getElem?_eq_getElem hj1, hj2])
theorem place_any {B : Nat → Prop} {w : World} {c : Nat} {most : Int} {vs : List TrV} (h : CAt B w c most vs) (x : Int) : Calls Try.prog fn_cache_Cache_place #[.pointer (some ⟨c, 0, none⟩), .int .i64 x] w fun e w' => ∃ n : Int, e = .returned (.int .i64 n) ∧ PlaceS x (vs.map (·.start)) n ∧ Chg No w w' := by
  refine (cache_Cache_place_lift (K := fun v w' => ∃ n : Int, v = .int .i64 n ∧ PlaceS x (vs.map (·.start)) n ∧ Chg No w w') ?_).mono (by rintro e w' ⟨v, rfl, n, rfl, h⟩; exact ⟨n, rfl, h⟩)
  unfold cache_Cache_place_sh
  intro b w4 hb hw
  have ho : Ob w4 b [.int .i64 x] T_int := by rw [hw, hb]; exact Ob.new w [.int .i64 x] T_int
  have hc : Chg No w w4 := by rw [hw]; exact Chg.alloc _ _ _
  obtain ⟨s, l, h1, h2, h3, h4, h5, h6⟩ := h.no hc
  refine ⟨s, h1.cell rfl, ?_⟩
  refine (index_any h2.rd b x ho).mono ?_
  rintro e w7 ⟨n, rfl, hp, hc7⟩
  rw [starts_eq h5 h6] at hp
  exact ⟨n, rfl, n, rfl, hp, hc.trans hc7 (fun _ _ h => h) (fun _ _ h => h)⟩
theorem clen_any {B : Nat → Prop} {w : World} {c : Nat} {most : Int} {vs : List TrV} (h : CAt B w c most vs) : Calls Try.prog fn_cache_Cache_Len #[.pointer (some ⟨c, 0, none⟩)] w fun e w' => e = .returned (.int .i64 vs.length) ∧ w = w' := by
  refine (cache_Cache_Len_lift (K := fun v w' => v = .int .i64 vs.length ∧ w = w') ?_).mono (by rintro e w' ⟨v, rfl, rfl, h⟩; exact ⟨rfl, h⟩)
  obtain ⟨s, l, h1, h2, h3, h4, h5, h6⟩ := h
  exact ⟨s, h1.cell rfl, by rw [h2.rd.len, h5], rfl⟩
theorem has_any {B : Nat → Prop} {w : World} {c : Nat} {most : Int} {vs : List TrV} (h : CAt B w c most vs) (x : Int) : Calls Try.prog fn_cache_Cache_Has #[.pointer (some ⟨c, 0, none⟩), .int .i64 x] w fun e w' => e = .returned (.bool (decide (x ∈ vs.map (·.start)))) ∧ Chg No w w' := by
  refine (cache_Cache_Has_lift (K := fun v w' => v = .bool (decide (x ∈ vs.map (·.start))) ∧ Chg No w w') ?_).mono (by rintro e w' ⟨v, rfl, rfl, h⟩; exact ⟨rfl, h⟩)
  unfold cache_Cache_Has_sh
  refine (place_any h x).mono ?_
  rintro e w4 ⟨n, rfl, hp, hc⟩
  refine ⟨n, rfl, ?_, hc⟩
  congr 1
  rcases hp with ⟨rfl, hn⟩ | ⟨k, rfl, hk, _⟩
  · rw [decide_eq_false hn]; rfl
  · rw [decide_eq_true (List.mem_of_getElem? hk), decide_eq_true (by omega)]
theorem cnew_any (most : Int) (w : World) : Calls Try.prog fn_cache_New #[.int .i64 most] w fun e w' => ∃ c : Nat, e = .returned (.pointer (some ⟨c, 0, none⟩)) ∧ CAt (fun k => w.heap.size ≤ k) w' c (imin (imax most 0) 100) [] ∧ Chg No w w' := by
  refine (cache_New_lift (K := fun v w' => ∃ c : Nat, v = .pointer (some ⟨c, 0, none⟩) ∧ CAt (fun k => w.heap.size ≤ k) w' c (imin (imax most 0) 100) [] ∧ Chg No w w') ?_).mono (by rintro e w' ⟨v, rfl, c, rfl, h⟩; exact ⟨c, rfl, h⟩)
  unfold cache_New_sh
  intro b w3 hb hw
  have ho : Ob w3 b [.int .i64 (imin (imax most 0) 100), nilS.val] T_cache_Cache := by rw [hw, hb]; exact Ob.new w [.int .i64 (imin (imax most 0) 100), nilS.val] T_cache_Cache
  refine ⟨b, rfl, ⟨nilS, [], ho, Ox.nil _ _, (by omega), (fun k hk => by cases hk), rfl, (fun i t v hi => by simp at hi)⟩, ?_⟩
  rw [hw]; exact Chg.alloc _ _ _
end Go.Proofs.Ytlpbdloloaoapaa

/- cache.Put of a trace that is not there yet. -/
set_option maxRecDepth 100000
namespace Go.Proofs.Ytlpbdloloaoapaa
open Go.RowKit

theorem put_new {B D : Nat → Prop} {w : World} {c : Nat} {most : Int} {vs : List TrV} (h : CAt B w c most vs) (hm : 0 ≤ most) (t : Tr) (v : TrV) (ht : TrIs D w t v) (hv : SmV v) (hB : ∀ k, w.heap.size ≤ k → B k) (hD : ∀ k, D k → ¬ B k) (hl : vs.length ≤ 100000) (hx : v.start ∉ vs.map (·.start)) :
    Calls Try.prog fn_cache_Cache_Put #[.pointer (some ⟨c, 0, none⟩), .agg (trC t).toArray] w fun e w' => ∃ g : Sl, e = .returned g.val ∧ Ow intE w' g (((vs ++ [v]).take ((vs ++ [v]).length - most.toNat)).map (·.start)) ∧
      CAt (fun k => B k ∧ g.blk ≠ some k) w' c most ((vs ++ [v]).drop ((vs ++ [v]).length - most.toNat)) ∧ Chg B w w' ∧ (∀ k, g.blk = some k → w.heap.size ≤ k) := by
  refine (cache_Cache_Put_lift (K := fun r w' => ∃ g : Sl, r = g.val ∧ Ow intE w' g (((vs ++ [v]).take ((vs ++ [v]).length - most.toNat)).map (·.start)) ∧
      CAt (fun k => B k ∧ g.blk ≠ some k) w' c most ((vs ++ [v]).drop ((vs ++ [v]).length - most.toNat)) ∧ Chg B w w' ∧ (∀ k, g.blk = some k → w.heap.size ≤ k)) ?_).mono (by rintro e w' ⟨r, rfl, g, rfl, h⟩; exact ⟨g, rfl, h⟩)
  obtain ⟨L, hL⟩ : ∃ L, L = vs ++ [v] := ⟨_, rfl⟩
  rw [← hL]
  have hLl : L.length = vs.length + 1 := by rw [hL]; simp
  unfold cache_Cache_Put_sh
  intro b11 w12 hb11 hw12
  have ho12 : Ob w12 b11 (trC t) T_api_Trace := by rw [hw12, hb11]; exact Ob.new w (trC t) T_api_Trace
  have c12 : Chg No w w12 := by rw [hw12]; exact Chg.alloc _ _ _
  refine ⟨_, ho12.cell rfl, ?_⟩
  rw [ht.nums.1]
  refine (place_any (h.no c12) v.start).mono ?_
  rintro e w15 ⟨n, rfl, hp, c15⟩
  have hn : n = -1 := by
    rcases hp with ⟨rfl, _⟩ | ⟨k, rfl, hk, _⟩
    · rfl
    · exact absurd (List.mem_of_getElem? hk) hx
  subst hn
  refine ⟨_, rfl, ?_⟩
  have cw15 : Chg No w w15 := c12.trans c15 (fun _ _ h => h) (fun _ _ h => h)
  have ho15 := ho12.no c15
  have h15 : CAt (fun k => B k ∧ k < w.heap.size) w15 c most vs := h.nar.no cw15
  have t15 := ht.no cw15
  refine ⟨fun w22 => w22 = w15, fun w22 hw22 => ?_, by rw [decide_eq_false (by omega)]; exact brB_f rfl⟩
  subst hw22
  intro w23 hw23
  have c23 : Chg No w22 w23 := by rw [hw23]; exact Chg.drew _ _
  have cw23 : Chg No w w23 := cw15.trans c23 (fun _ _ h => h) (fun _ _ h => h)
  obtain ⟨s, l, h1, h2, h3, h4, h5, h6⟩ := h15.no c23
  have ho23 := ho15.no c23
  have s23 := cw23.size
  have hb11lt := ho23.lt
  have nb : ∀ k, s.blk = some k → k ≠ b11 := fun k hk => by have := (h4 k hk).1.2; omega
  have nc : c ≠ b11 := by have := h3.2; omega
  refine ⟨fun w' => Ob w' c [.int .i64 most, s.val] T_cache_Cache ∧ Ob w' b11 (trC t) T_api_Trace, ⟨h1, ho23⟩, s, fun w' hw' => hw'.1.cell rfl, t.start, t.slots, t.backs, t.grow, t.growBack, t.ins, t.outs, t.last, t.cells, fun w' hw' => hw'.2.cell rfl, fun w' hw' => hw'.2.cell rfl, fun w' hw' => hw'.2.cell rfl, fun w' hw' => hw'.2.cell rfl, fun w' hw' => hw'.2.cell rfl, fun w' hw' => hw'.2.cell rfl, fun w' hw' => hw'.2.cell rfl, fun w' hw' => hw'.2.cell rfl, fun w' hw' => hw'.2.cell rfl, ?_⟩
  refine (own_any t v w23 D (t15.no c23) hv).mono ?_
  rintro e w36 ⟨t', rfl, ht', c36⟩
  refine ⟨t'.start, t'.slots, t'.backs, t'.grow, t'.growBack, t'.ins, t'.outs, t'.last, t'.cells, rfl, ⟨h1.no c36, ho23.no c36⟩, ?_⟩
  intro b46 w47 hb46 hw47
  have c47 : Chg No w36 w47 := by rw [hw47]; exact Chg.alloc _ _ _
  have s36 := c36.size
  have s47 := c47.size
  have hlit : Ow trE w47 ⟨some ⟨b46, 0, none⟩, 1, 1⟩ [t'] := by
    rw [hw47, hb46]
    exact Ow.lit w36 [t'] (trC t') (by rw [fl_one]; rfl) (by show 1 ≤ maxLen; unfold maxLen; omega)
  have g1 := (h1.no c36).no c47
  have g11 := (ho23.no c36).no c47
  have g2 := (h2.no c36).no c47
  refine ⟨⟨g1, g11⟩, ?_⟩
  have hll : l.length ≤ 100000 := by omega
  refine appx_ok trOk rfl rfl g2 hlit.rd (at' := ⟨b46, 0, none⟩) rfl (fun _ => by simp) (by show (l.length + 1) * 120 ≤ _; omega) (by show l.length + 1 ≤ _; unfold maxLen; omega) ?_
  intro s' w49 h49 c49 hbk _
  have f1 := g1.chg c49 (fun hk => (h4 c hk).2 rfl)
  have f11 := g11.chg c49 (fun hk => nb b11 hk rfl)
  refine ⟨⟨f1, f11⟩, f1.wr (by simp), ?_⟩
  intro w50 hw50
  have k1 : Ob w50 c [.int .i64 most, s'.val] T_cache_Cache := by
    have := Ob.st (vs := [s'.val]) (k := 1) (i := 0) f1
    rw [hw50]; exact this
  have c50 : Chg (fun k => k = c) w49 w50 := by rw [hw50]; exact Chg.st (S := fun k => k = c) rfl
  have s49 := c49.size
  have s50 := c50.size
  have hs' : ∀ k, s'.blk = some k → (B k ∧ k ≠ c) := by
    intro k hk
    rcases hbk with hh | hh
    · rw [hh] at hk; exact ⟨(h4 k hk).1.1, (h4 k hk).2⟩
    · have := hh k hk
      exact ⟨hB k (by omega), by have := h3.2; omega⟩
  have cw47 : Chg No w w47 := (cw23.trans c36 (fun _ _ h => h) (fun _ _ h => h)).trans c47 (fun _ _ h => h) (fun _ _ h => h)
  have cw50 : Chg B w w50 := (cw47.trans c49 (U := B) (fun _ _ h => h.elim) (fun k _ hk => (h4 k hk).1.1)).trans c50 (fun _ _ h => h) (fun k _ hk => by rw [hk]; exact h3.1)
  have k2 : Ox trE w50 s' (l ++ [t']) := h49.chg c50 (fun k hk he => (hs' k hk).2 he)
  have hca : CAt B w50 c most L := by
    refine ⟨s', l ++ [t'], k1, k2, h3.1, hs', by rw [hL]; simp [h5], fun i x y hi hy => ?_⟩
    rw [hL] at hy
    by_cases hil : i < l.length
    · rw [List.getElem?_append_left hil] at hi
      rw [List.getElem?_append_left (by omega)] at hy
      obtain ⟨a, b⟩ := h6 i x y hi hy
      refine ⟨(((((a.no c36).no c47).chg c49 (fun k hk he => hk.2.2.2 he)).chg c50 (fun k hk he => hk.2.2.1 he)).wid (fun k hk => ?_)), b⟩
      refine ⟨hk.1.1, by have := hk.2.1; omega, hk.2.2.1, fun he => ?_⟩
      rcases hbk with hh | hh
      · rw [hh] at he; exact hk.2.2.2 he
      · have := hh k he; have := hk.2.1; omega
    · have hi2 : i = l.length := by
        have := (List.getElem?_eq_some_iff.1 hi).1; simp at this; omega
      subst hi2
      rw [List.getElem?_append_right (Nat.le_refl _), Nat.sub_self] at hi
      rw [h5, List.getElem?_append_right (Nat.le_refl _), Nat.sub_self] at hy
      cases hi; cases hy
      refine ⟨(((ht'.no c47).chg c49 (fun k hk he => by have := (h4 k he).1.2; omega)).chg c50 (fun k hk he => by have := h3.2; omega)).wid (fun k hk => ?_), hv⟩
      refine ⟨hB k (by omega), by omega, by have := h3.2; omega, fun he => ?_⟩
      rcases hbk with hh | hh
      · rw [hh] at he; have := (h4 k he).1.2; omega
      · have := hh k he; omega
  refine ⟨fun g w' => ∃ j : Nat, j ≤ L.length - most.toNat ∧ Ow intE w' g ((L.take j).map (·.start)) ∧ CAt (fun k => B k ∧ g.blk ≠ some k) w' c most (L.drop j) ∧ Chg B w w' ∧ (∀ k, g.blk = some k → w.heap.size ≤ k), fun g _ => L.length - g.len, ⟨0, Nat.zero_le _, Ow.nil _ _, hca.wid (fun k hk => ⟨hk, fun e => by cases e⟩), cw50, fun k hk => by cases hk⟩, ?_⟩
  rintro g w51 ⟨j, hj, hg, hc51, cw51, hgb⟩
  intro w52 hw52
  have q52 : Chg No w51 w52 := by rw [hw52]; exact Chg.drew _ _
  have hg52 := hg.no q52
  have hc52 := hc51.no q52
  have cw52 : Chg B w w52 := cw51.trans q52 (fun _ _ h => h) (fun _ _ h => h.elim)
  have hc52' := hc52
  obtain ⟨s, l, h1, h2, h3, h4, h5, h6⟩ := hc52
  have hlen := h2.rd.len
  have hld : (L.drop j).length = L.length - j := by simp
  have hgl : g.len = j := by rw [hg.lenOf, List.length_map, List.length_take]; omega
  refine ⟨s, held_Lw (h1.cell rfl), most, held_Lw (h1.cell rfl), brB_of (fun hlt => ?_) (fun hlt => ?_)⟩
  · have hlt : most < (s.len : Int) := of_decide_eq_true hlt
    have hjlt : j < L.length - most.toNat := by omega
    obtain ⟨x, hx0⟩ : ∃ x, l[0]? = some x := ⟨_, List.getElem?_eq_getElem (by omega)⟩
    obtain ⟨y, hy0⟩ : ∃ y, (L.drop j)[0]? = some y := ⟨_, List.getElem?_eq_getElem (by omega)⟩
    have hxy : x.start = y.start := (h6 0 x y hx0 hy0).1.nums.1
    refine ⟨s, h1.cell rfl, h2.rd.ix (Int.le_refl 0) hx0 fun a ha hcell => ?_⟩
    have e0 : ∀ q : Addr, q.add 0 = q := fun q => by unfold Addr.add; simp
    have c0 := hcell 0 _ rfl
    rw [e0] at c0
    refine ⟨_, c0, ?_⟩
    intro b59 w60 hb59 hw60
    have c60 : Chg No w52 w60 := by rw [hw60]; exact Chg.alloc _ _ _
    have hlit : Ow intE w60 ⟨some ⟨b59, 0, none⟩, 1, 1⟩ [x.start] := by
      rw [hw60, hb59]
      exact Ow.lit w52 [x.start] [.int .i64 x.start] (by rw [fl_one]; rfl) (by show 1 ≤ maxLen; unfold maxLen; omega)
    have hgl2 : ((L.take j).map (·.start)).length = j := by rw [List.length_map, List.length_take]; omega
    refine app_ok intOk rfl rfl (hg52.no c60) hlit.rd (by rw [hgl2]; show (j + 1) * 8 ≤ _; omega) (by rw [hgl2]; show j + 1 ≤ _; unfold maxLen; omega) ?_
    intro g' w62 hg' c62 hgbk
    have s52 := cw52.size
    have s60 := c60.size
    have s62 := c62.size
    have hg'b : ∀ k, g'.blk = some k → w.heap.size ≤ k := by
      intro k hk
      rcases hgbk with hh | hh
      · rw [hh] at hk; exact hgb k hk
      · rw [hh] at hk; cases hk; omega
    have o62 := (h1.no c60).chg c62 (fun hk => h3.2 hk)
    have x62 := (h2.no c60).chg c62 (fun k hk he => (h4 k hk).1.2 he)
    refine ⟨s, o62.cell rfl, by omega, by omega, ?_⟩
    intro s64 hs64
    refine ⟨o62.wr (by simp), ?_⟩
    intro w65 hw65
    have o65 : Ob w65 c [.int .i64 most, s64.val] T_cache_Cache := by
      have := Ob.st (vs := [s64.val]) (k := 1) (i := 0) o62
      rw [hw65]; exact this
    have c65 : Chg (fun k => k = c) w62 w65 := by rw [hw65]; exact Chg.st (S := fun k => k = c) rfl
    have s65 := c65.size
    have hdrop := x62.drop (m := 1) (by omega)
    have e64 : s64 = Sl.sub s.ptr s.cap 1 l.length trE.sz := by rw [hs64, hlen]; rfl
    rw [← e64] at hdrop
    have b64 : s64.blk = s.blk := by rw [e64]; exact sub_blk s 1 l.length trE.sz
    have hclt := (h1.lt)
    have gc : g'.blk ≠ some c := by
      intro e
      rcases hgbk with hh | hh
      · rw [hh] at e; exact h3.2 e
      · rw [hh] at e; cases e; omega
    have gs : ∀ k, s.blk = some k → g'.blk ≠ some k := by
      intro k hk e
      rcases hgbk with hh | hh
      · rw [hh] at e; exact (h4 k hk).1.2 e
      · have e := Option.some.inj (hh.symm.trans e); have := h2.lt k hk; omega
    refine ⟨⟨j + 1, by omega, ?_, ?_, ?_, hg'b⟩, ?_⟩
    · have e1 : (L.take j).map (·.start) ++ [x.start] = (L.take (j + 1)).map (·.start) := by
        have hLj : L[j]? = some y := by rw [List.getElem?_drop] at hy0; simpa using hy0
        rw [List.take_add_one, hLj, List.map_append, hxy]; rfl
      rw [← e1]
      exact hg'.chg c65 (fun k hk he => gc (by rw [hk, he]))
    · refine ⟨s64, l.drop 1, o65, hdrop.chg c65 (fun k hk he => (h4 k (b64 ▸ hk)).2 he), ⟨h3.1, gc⟩, fun k hk => ?_, by rw [List.length_drop, h5]; simp; omega, fun i x2 y2 hi hy => ?_⟩
      · have hk := b64 ▸ hk
        exact ⟨⟨(h4 k hk).1.1, gs k hk⟩, (h4 k hk).2⟩
      · rw [List.getElem?_drop] at hi hy
        obtain ⟨a, b⟩ := h6 (1 + i) x2 y2 hi (by rw [List.getElem?_drop]; rw [show j + (1 + i) = j + 1 + i by omega]; exact hy)
        refine ⟨(((a.no c60).chg c62 (fun k hk he => hk.1.2 he)).chg c65 (fun k hk he => hk.2.2.1 he)).wid (fun k hk => ?_), b⟩
        refine ⟨⟨hk.1.1, fun e => ?_⟩, by have := hk.2.1; omega, hk.2.2.1, by rw [b64]; exact hk.2.2.2⟩
        rcases hgbk with hh | hh
        · rw [hh] at e; exact hk.1.2 e
        · have e := Option.some.inj (hh.symm.trans e); have := hk.2.1; omega
    · have c1 : Chg B w w60 := cw52.trans c60 (fun _ _ h => h) (fun _ _ h => h.elim)
      have c2 : Chg B w w62 := c1.trans c62 (fun _ _ h => h) (fun k hk he => by have := hgb k he; omega)
      exact c2.trans c65 (fun _ _ h => h) (fun k _ hk => by rw [hk]; exact h3.1)
    · have : g'.len = j + 1 := by rw [hg'.lenOf, List.length_append, hgl2]; rfl
      show L.length - g'.len < L.length - g.len
      omega
  · have hlt : ¬ most < (s.len : Int) := of_decide_eq_false hlt
    have hje : j = L.length - most.toNat := by omega
    subst hje
    exact ⟨g, rfl, hg52, hc52', cw52, hgb⟩
end Go.Proofs.Ytlpbdloloaoapaa

/- Functions of Hollowaylaw21, read without their frames; that each is enough. Printed by a program of mine (wip/lift/gen.py). -/
set_option maxRecDepth 100000
namespace Go.Proofs.Ytlpbdloloaoapaa
open Go.RowKit

-- holloway/hollowaylaw21.CachePlays
def hollowaylaw21_CachePlays_sh (most1 : Int) (l_2 : Sl) (w : World) (K : Value → World → Prop) : Prop :=
 ∃ J3 : Bool → World → Prop, (∀ (b7 : Bool) (w6 : World), J3 b7 w6 →
 brB b7
 (Calls Try.prog fn_hollowaylaw21_alive #[] w6 fun e8 w9 => ∃ b10 : Bool, e8 = .returned (.bool b10) ∧
 K (.bool b10) w9)
 (Calls Try.prog fn_cache_New #[.int .i64 most1] w6 fun e11 w12 => ∃ p13 : Option Addr, e11 = .returned (.pointer p13) ∧
 brB (Option.isNone p13)
 (K (.bool false) w12)
 (∀ (b14 : Nat) (w15 : World), b14 = w12.heap.size → w15 = World.alloc w12 (.cells #[.slice none 0 0, .slice none 0 0, .slice none 0 0, .slice none 0 0, .slice none 0 0, .slice none 0 0, .slice none 0 0, .slice none 0 0, .slice none 0 0, .slice none 0 0, .slice none 0 0, .slice none 0 0] T_hollowaybook_Book) →
 ∃ (I1 : Sl → Sl → Int → World → Prop) (μ1 : Sl → Sl → Int → World → Nat), I1 (⟨none, 0, 0⟩ : Sl) (⟨none, 0, 0⟩ : Sl) (0 : Int) w15 ∧ ∀ (order27 : Sl) (vals34 : Sl) (i17 : Int) (w16 : World), I1 order27 vals34 i17 w16 →
 brB (decide (i17 < (l_2.len : Int)))
 (∃ a18 : Addr, l_2.ptr = some a18 ∧ 0 ≤ i17 ∧ i17 < (l_2.len : Int) ∧
 ∃ n_Kind19 : Int, ∃ n_Start20 : Int, ∃ n_V21 : Int, w16.cell? (Addr.add a18 (Int.toNat i17 * 3)) = some (.int .i64 n_Kind19) ∧ w16.cell? (Addr.add (Addr.add a18 (Int.toNat i17 * 3)) 1) = some (.int .i64 n_Start20) ∧ w16.cell? (Addr.add (Addr.add a18 (Int.toNat i17 * 3)) 2) = some (.int .i64 n_V21) ∧
 ∀ (b22 : Nat) (w23 : World), b22 = w16.heap.size → w23 = World.alloc w16 (.cells #[.int .i64 (0 : Int), .int .i64 (0 : Int), .int .i64 (0 : Int)] T_hollowaylaw21_Op) →
 wrOk w23 ⟨b22, 0, none⟩ 3 ∧ ∀ w24 : World, w24 = stW w23 ⟨b22, 0, none⟩ 0 [.int .i64 n_Kind19, .int .i64 n_Start20, .int .i64 n_V21] →
 ∃ (I2 : Int → Int → World → Prop) (μ2 : Int → Int → World → Nat), I2 (-1 : Int) (0 : Int) w24 ∧ ∀ (at33 : Int) (k26 : Int) (w25 : World), I2 at33 k26 w25 →
 brB (decide (k26 < (order27.len : Int)))
 (∃ J23 : Int → World → Prop, (∀ (at335 : Int) (w32 : World), J23 at335 w32 →
 I2 at335 (wr (k26 + (1 : Int))) w32 ∧ μ2 at335 (wr (k26 + (1 : Int))) w32 < μ2 at33 k26 w25) ∧
 ∀ w28 : World, w28 = World.drew w25 →
 ∃ a29 : Addr, order27.ptr = some a29 ∧ 0 ≤ k26 ∧ k26 < (order27.len : Int) ∧
 ∃ n30 : Int, held (Lw w28) (Addr.add a29 (Int.toNat k26 * 1)) (.int .i64 n30) ∧
 ∃ n31 : Int, held (Lw w28) ⟨b22, 1, none⟩ (.int .i64 n31) ∧
 brB (n30 == n31)
 (J23 k26 w28)
 (J23 at33 w28))
 (∃ J26 : Int → World → Prop, (∀ (v162 : Int) (w37 : World), J26 v162 w37 →
 ∃ J28 : Sl → Sl → World → Prop, (∀ (order93 : Sl) (vals95 : Sl) (w51 : World), J28 order93 vals95 w51 →
 ∃ J35 : Sl → Sl → World → Prop, (∀ (order239 : Sl) (vals334 : Sl) (w227 : World), J35 order239 vals334 w227 →
 Calls Try.prog fn_cache_Cache_Starts #[.pointer p13] w227 fun e228 w229 => ∃ s230 : Sl, e228 = .returned (s230.val) ∧
 Calls Try.prog fn_hollowaybook_Book_Ints #[.pointer (some ⟨b14, 0, none⟩), s230.val] w229 fun e231 w232 => e231 = .returned (.tuple #[]) ∧
 Calls Try.prog fn_cache_Cache_Eldest #[.pointer p13] w232 fun e233 w234 => ∃ n235 : Int, ∃ b236 : Bool, e233 = .returned (.tuple #[.int .i64 n235, .bool b236]) ∧
 ∃ (I4 : Bool → Int → World → Prop) (μ4 : Bool → Int → World → Nat), I4 false (0 : Int) w234 ∧ ∀ (in241 : Bool) (k238 : Int) (w237 : World), I4 in241 k238 w237 →
 brB (decide (k238 < (order239.len : Int)))
 (∃ J68 : Bool → World → Prop, (∀ (in338 : Bool) (w245 : World), J68 in338 w245 →
 I4 in338 (wr (k238 + (1 : Int))) w245 ∧ μ4 in338 (wr (k238 + (1 : Int))) w245 < μ4 in241 k238 w237) ∧
 ∀ w240 : World, w240 = World.drew w237 →
 brB in241
 (J68 true w240)
 (∃ a242 : Addr, order239.ptr = some a242 ∧ 0 ≤ k238 ∧ k238 < (order239.len : Int) ∧
 ∃ n243 : Int, held (Lw w240) (Addr.add a242 (Int.toNat k238 * 1)) (.int .i64 n243) ∧
 ∃ n244 : Int, held (Lw w240) ⟨b22, 1, none⟩ (.int .i64 n244) ∧
 J68 (n243 == n244) w240))
 (∃ J69 : Bool → World → Prop, (∀ (b283 : Bool) (w282 : World), J69 b283 w282 →
 brB b283
 (K (.bool false) w282)
 (I1 order239 vals334 (wr (i17 + (1 : Int))) w282 ∧ μ1 order239 vals334 (wr (i17 + (1 : Int))) w282 < μ1 order27 vals34 i17 w16)) ∧
 Calls Try.prog fn_hollowaybook_SameInts #[s230.val, order239.val] w237 fun e246 w247 => ∃ b248 : Bool, e246 = .returned (.bool b248) ∧
 brB (!b248)
 (J69 true w247)
 (Calls Try.prog fn_cache_Cache_Len #[.pointer p13] w247 fun e249 w250 => ∃ n251 : Int, e249 = .returned (.int .i64 n251) ∧
 brB (n251 != (order239.len : Int))
 (J69 true w250)
 (brB (!(b236 == (decide ((order239.len : Int) > (0 : Int)))))
 (J69 true w250)
 (brB b236
 (∃ a252 : Addr, order239.ptr = some a252 ∧ 0 ≤ (0 : Int) ∧ (0 : Int) < (order239.len : Int) ∧
 ∃ n253 : Int, w250.cell? (Addr.add a252 (Int.toNat (0 : Int) * 1)) = some (.int .i64 n253) ∧
 brB (n235 != n253)
 (J69 true w250)
 (brB (!b236)
 (brB (n235 != (0 : Int))
 (J69 true w250)
 (∃ n254 : Int, w250.cell? ⟨b22, 1, none⟩ = some (.int .i64 n254) ∧
 Calls Try.prog fn_cache_Cache_Has #[.pointer p13, .int .i64 n254] w250 fun e255 w256 => ∃ b257 : Bool, e255 = .returned (.bool b257) ∧
 brB (!(b257 == in241))
 (J69 true w256)
 (Calls Try.prog fn_cache_Cache_Len #[.pointer p13] w256 fun e258 w259 => ∃ n260 : Int, e258 = .returned (.int .i64 n260) ∧
 J69 (decide (n260 > (imin (imax most1 (0 : Int)) (100 : Int)))) w259)))
 (∃ n261 : Int, w250.cell? ⟨b22, 1, none⟩ = some (.int .i64 n261) ∧
 Calls Try.prog fn_cache_Cache_Has #[.pointer p13, .int .i64 n261] w250 fun e262 w263 => ∃ b264 : Bool, e262 = .returned (.bool b264) ∧
 brB (!(b264 == in241))
 (J69 true w263)
 (Calls Try.prog fn_cache_Cache_Len #[.pointer p13] w263 fun e265 w266 => ∃ n267 : Int, e265 = .returned (.int .i64 n267) ∧
 J69 (decide (n267 > (imin (imax most1 (0 : Int)) (100 : Int)))) w266))))
 (brB (!b236)
 (brB (n235 != (0 : Int))
 (J69 true w250)
 (∃ n268 : Int, w250.cell? ⟨b22, 1, none⟩ = some (.int .i64 n268) ∧
 Calls Try.prog fn_cache_Cache_Has #[.pointer p13, .int .i64 n268] w250 fun e269 w270 => ∃ b271 : Bool, e269 = .returned (.bool b271) ∧
 brB (!(b271 == in241))
 (J69 true w270)
 (Calls Try.prog fn_cache_Cache_Len #[.pointer p13] w270 fun e272 w273 => ∃ n274 : Int, e272 = .returned (.int .i64 n274) ∧
 J69 (decide (n274 > (imin (imax most1 (0 : Int)) (100 : Int)))) w273)))
 (∃ n275 : Int, w250.cell? ⟨b22, 1, none⟩ = some (.int .i64 n275) ∧
 Calls Try.prog fn_cache_Cache_Has #[.pointer p13, .int .i64 n275] w250 fun e276 w277 => ∃ b278 : Bool, e276 = .returned (.bool b278) ∧
 brB (!(b278 == in241))
 (J69 true w277)
 (Calls Try.prog fn_cache_Cache_Len #[.pointer p13] w277 fun e279 w280 => ∃ n281 : Int, e279 = .returned (.int .i64 n281) ∧
 J69 (decide (n281 > (imin (imax most1 (0 : Int)) (100 : Int)))) w280)))))))) ∧
 ∃ n52 : Int, w51.cell? ⟨b22, 0, none⟩ = some (.int .i64 n52) ∧
 brB (n52 == (1 : Int))
 (∃ n53 : Int, w51.cell? ⟨b22, 1, none⟩ = some (.int .i64 n53) ∧
 ∃ n54 : Int, w51.cell? ⟨b22, 2, none⟩ = some (.int .i64 n54) ∧
 Calls Try.prog fn_hollowaylaw21_trace #[.int .i64 n53, .int .i64 n54] w51 fun e55 w56 => ∃ n_Start57 : Int, ∃ n_Slots58 : Int, ∃ n_Backs59 : Int, ∃ n_Grow60 : Int, ∃ n_GrowBack61 : Int, ∃ s_Ins62 : Sl, ∃ s_Outs63 : Sl, ∃ n_Last64 : Int, ∃ s_Cells65 : Sl, e55 = .returned (.agg #[.int .i64 n_Start57, .int .i64 n_Slots58, .int .i64 n_Backs59, .int .i64 n_Grow60, .int .i64 n_GrowBack61, s_Ins62.val, s_Outs63.val, .int .i64 n_Last64, s_Cells65.val]) ∧
 ∀ (b66 : Nat) (w67 : World), b66 = w56.heap.size → w67 = World.alloc w56 (.cells #[.int .i64 (0 : Int), .int .i64 (0 : Int), .int .i64 (0 : Int), .int .i64 (0 : Int), .int .i64 (0 : Int), .slice none 0 0, .slice none 0 0, .int .i64 (0 : Int), .slice none 0 0] T_api_Trace) →
 wrOk w67 ⟨b66, 0, none⟩ 9 ∧ ∀ w68 : World, w68 = stW w67 ⟨b66, 0, none⟩ 0 [.int .i64 n_Start57, .int .i64 n_Slots58, .int .i64 n_Backs59, .int .i64 n_Grow60, .int .i64 n_GrowBack61, s_Ins62.val, s_Outs63.val, .int .i64 n_Last64, s_Cells65.val] →
 ∃ n_Start69 : Int, ∃ n_Slots70 : Int, ∃ n_Backs71 : Int, ∃ n_Grow72 : Int, ∃ n_GrowBack73 : Int, ∃ s_Ins74 : Sl, ∃ s_Outs75 : Sl, ∃ n_Last76 : Int, ∃ s_Cells77 : Sl, w68.cell? ⟨b66, 0, none⟩ = some (.int .i64 n_Start69) ∧ w68.cell? ⟨b66, 1, none⟩ = some (.int .i64 n_Slots70) ∧ w68.cell? ⟨b66, 2, none⟩ = some (.int .i64 n_Backs71) ∧ w68.cell? ⟨b66, 3, none⟩ = some (.int .i64 n_Grow72) ∧ w68.cell? ⟨b66, 4, none⟩ = some (.int .i64 n_GrowBack73) ∧ w68.cell? ⟨b66, 5, none⟩ = some (s_Ins74.val) ∧ w68.cell? ⟨b66, 6, none⟩ = some (s_Outs75.val) ∧ w68.cell? ⟨b66, 7, none⟩ = some (.int .i64 n_Last76) ∧ w68.cell? ⟨b66, 8, none⟩ = some (s_Cells77.val) ∧
 Calls Try.prog fn_cache_Cache_Put #[.pointer p13, .agg #[.int .i64 n_Start69, .int .i64 n_Slots70, .int .i64 n_Backs71, .int .i64 n_Grow72, .int .i64 n_GrowBack73, s_Ins74.val, s_Outs75.val, .int .i64 n_Last76, s_Cells77.val]] w68 fun e78 w79 => ∃ s80 : Sl, e78 = .returned (s80.val) ∧
 ∀ w81 : World, w81 = World.drew w79 →
 ∃ S82 : World → Prop, S82 w81 ∧
 ∃ s83 : Sl, held S82 ⟨b66, 5, none⟩ (s83.val) ∧
 ∃ s84 : Sl, held S82 ⟨b66, 8, none⟩ (s84.val) ∧
 ∃ a85 : Addr, s83.ptr = some a85 ∧ 0 ≤ (0 : Int) ∧ (0 : Int) < (s83.len : Int) ∧
 wrOk w81 (Addr.add (Addr.add a85 (Int.toNat (0 : Int) * 5)) 1) 1 ∧ ∀ w86 : World, w86 = stW w81 (Addr.add (Addr.add a85 (Int.toNat (0 : Int) * 5)) 1) 0 [.int .i64 (-9 : Int)] →
 S82 w86 ∧
 ∃ a87 : Addr, s84.ptr = some a87 ∧ 0 ≤ (0 : Int) ∧ (0 : Int) < (s84.len : Int) ∧
 wrOk w86 (Addr.add a87 (Int.toNat (0 : Int) * 1)) 1 ∧ ∀ w88 : World, w88 = stW w86 (Addr.add a87 (Int.toNat (0 : Int) * 1)) 0 [.int .i64 (-9 : Int)] →
 Calls Try.prog fn_hollowaybook_Book_Ints #[.pointer (some ⟨b14, 0, none⟩), s80.val] w88 fun e89 w90 => e89 = .returned (.tuple #[]) ∧
 ∃ J42 : Sl → Sl → World → Prop, (∀ (order336 : Sl) (vals337 : Sl) (w119 : World), J42 order336 vals337 w119 →
 ∃ (I3 : Sl → Sl → Sl → World → Prop) (μ3 : Sl → Sl → Sl → World → Nat), I3 order336 vals337 (⟨none, 0, 0⟩ : Sl) w119 ∧ ∀ (order121 : Sl) (vals130 : Sl) (want122 : Sl) (w120 : World), I3 order121 vals130 want122 w120 →
 brB (decide ((order121.len : Int) > (imin (imax most1 (0 : Int)) (100 : Int))))
 (∃ a123 : Addr, order121.ptr = some a123 ∧ 0 ≤ (0 : Int) ∧ (0 : Int) < (order121.len : Int) ∧
 ∃ n124 : Int, w120.cell? (Addr.add a123 (Int.toNat (0 : Int) * 1)) = some (.int .i64 n124) ∧
 ∀ (b125 : Nat) (w126 : World), b125 = w120.heap.size → w126 = World.alloc w120 (.cells #[.int .i64 n124] T_int) →
 ∃ s127 : Sl, ∃ w128 : World, (Builtin.append_ #[T_sl_int, T_sl_int] T_sl_int #[want122.val, .slice (some ⟨b125, 0, none⟩) 1 1]).run Try.prog w126 = .ok (s127.val) w128 ∧
 ∀ w129 : World, w129 = World.drew w128 →
 0 ≤ (1 : Int) ∧ (1 : Int) ≤ (order121.len : Int) ∧ 
 0 ≤ (1 : Int) ∧ (1 : Int) ≤ (vals130.len : Int) ∧ 
 I3 (Sl.sub order121.ptr order121.cap (Int.toNat (1 : Int)) order121.len 1) (Sl.sub vals130.ptr vals130.cap (Int.toNat (1 : Int)) vals130.len 1) s127 w129 ∧ μ3 (Sl.sub order121.ptr order121.cap (Int.toNat (1 : Int)) order121.len 1) (Sl.sub vals130.ptr vals130.cap (Int.toNat (1 : Int)) vals130.len 1) s127 w129 < μ3 order121 vals130 want122 w120)
 (Calls Try.prog fn_hollowaybook_SameInts #[s80.val, want122.val] w120 fun e131 w132 => ∃ b133 : Bool, e131 = .returned (.bool b133) ∧
 brB (!b133)
 (K (.bool false) w132)
 (J35 order121 vals130 w132))) ∧
 ∀ w91 : World, w91 = World.drew w90 →
 ∃ S92 : World → Prop, S92 w91 ∧
 ∃ n94 : Int, held S92 ⟨b22, 1, none⟩ (.int .i64 n94) ∧
 ∃ n96 : Int, held S92 ⟨b22, 2, none⟩ (.int .i64 n96) ∧
 (∀ (b97 : Nat) (w98 : World), b97 = w91.heap.size → w98 = World.alloc w91 (.cells #[.int .i64 n94] T_int) →
 S92 w98 ∧
 (∃ s99 : Sl, ∃ w100 : World, (Builtin.append_ #[T_sl_int, T_sl_int] T_sl_int #[order93.val, .slice (some ⟨b97, 0, none⟩) 1 1]).run Try.prog w98 = .ok (s99.val) w100 ∧
 S92 w100 ∧
 ∀ (b101 : Nat) (w102 : World), b101 = w100.heap.size → w102 = World.alloc w100 (.cells #[.int .i64 n96] T_int) →
 S92 w102 ∧
 ∃ s103 : Sl, ∃ w104 : World, (Builtin.append_ #[T_sl_int, T_sl_int] T_sl_int #[vals95.val, .slice (some ⟨b101, 0, none⟩) 1 1]).run Try.prog w102 = .ok (s103.val) w104 ∧
 J42 s99 s103 w104) ∧
 (∀ (b105 : Nat) (w106 : World), b105 = w98.heap.size → w106 = World.alloc w98 (.cells #[.int .i64 n96] T_int) →
 S92 w106 ∧
 ∃ s107 : Sl, ∃ w108 : World, (Builtin.append_ #[T_sl_int, T_sl_int] T_sl_int #[order93.val, .slice (some ⟨b97, 0, none⟩) 1 1]).run Try.prog w106 = .ok (s107.val) w108 ∧
 S92 w108 ∧
 ∃ s109 : Sl, ∃ w110 : World, (Builtin.append_ #[T_sl_int, T_sl_int] T_sl_int #[vals95.val, .slice (some ⟨b105, 0, none⟩) 1 1]).run Try.prog w108 = .ok (s109.val) w110 ∧
 J42 s107 s109 w110)) ∧
 (∀ (b111 : Nat) (w112 : World), b111 = w91.heap.size → w112 = World.alloc w91 (.cells #[.int .i64 n96] T_int) →
 S92 w112 ∧
 ∀ (b113 : Nat) (w114 : World), b113 = w112.heap.size → w114 = World.alloc w112 (.cells #[.int .i64 n94] T_int) →
 S92 w114 ∧
 ∃ s115 : Sl, ∃ w116 : World, (Builtin.append_ #[T_sl_int, T_sl_int] T_sl_int #[order93.val, .slice (some ⟨b113, 0, none⟩) 1 1]).run Try.prog w114 = .ok (s115.val) w116 ∧
 S92 w116 ∧
 ∃ s117 : Sl, ∃ w118 : World, (Builtin.append_ #[T_sl_int, T_sl_int] T_sl_int #[vals95.val, .slice (some ⟨b111, 0, none⟩) 1 1]).run Try.prog w116 = .ok (s117.val) w118 ∧
 J42 s115 s117 w118))
 (brB (n52 == (2 : Int))
 (∃ n134 : Int, w51.cell? ⟨b22, 1, none⟩ = some (.int .i64 n134) ∧
 Calls Try.prog fn_cache_Cache_Get #[.pointer p13, .int .i64 n134] w51 fun e135 w136 => ∃ n_Start137 : Int, ∃ n_Slots138 : Int, ∃ n_Backs139 : Int, ∃ n_Grow140 : Int, ∃ n_GrowBack141 : Int, ∃ s_Ins142 : Sl, ∃ s_Outs143 : Sl, ∃ n_Last144 : Int, ∃ s_Cells145 : Sl, ∃ b146 : Bool, e135 = .returned (.tuple #[.agg #[.int .i64 n_Start137, .int .i64 n_Slots138, .int .i64 n_Backs139, .int .i64 n_Grow140, .int .i64 n_GrowBack141, s_Ins142.val, s_Outs143.val, .int .i64 n_Last144, s_Cells145.val], .bool b146]) ∧
 ∀ (b147 : Nat) (w148 : World), b147 = w136.heap.size → w148 = World.alloc w136 (.cells #[.int .i64 (0 : Int), .int .i64 (0 : Int), .int .i64 (0 : Int), .int .i64 (0 : Int), .int .i64 (0 : Int), .slice none 0 0, .slice none 0 0, .int .i64 (0 : Int), .slice none 0 0] T_api_Trace) →
 wrOk w148 ⟨b147, 0, none⟩ 9 ∧ ∀ w149 : World, w149 = stW w148 ⟨b147, 0, none⟩ 0 [.int .i64 n_Start137, .int .i64 n_Slots138, .int .i64 n_Backs139, .int .i64 n_Grow140, .int .i64 n_GrowBack141, s_Ins142.val, s_Outs143.val, .int .i64 n_Last144, s_Cells145.val] →
 ∃ J53 : Bool → World → Prop, (∀ (b202 : Bool) (w201 : World), J53 b202 w201 →
 brB b202
 (K (.bool false) w201)
 (∃ n_Start203 : Int, ∃ n_Slots204 : Int, ∃ n_Backs205 : Int, ∃ n_Grow206 : Int, ∃ n_GrowBack207 : Int, ∃ s_Ins208 : Sl, ∃ s_Outs209 : Sl, ∃ n_Last210 : Int, ∃ s_Cells211 : Sl, w201.cell? ⟨b147, 0, none⟩ = some (.int .i64 n_Start203) ∧ w201.cell? ⟨b147, 1, none⟩ = some (.int .i64 n_Slots204) ∧ w201.cell? ⟨b147, 2, none⟩ = some (.int .i64 n_Backs205) ∧ w201.cell? ⟨b147, 3, none⟩ = some (.int .i64 n_Grow206) ∧ w201.cell? ⟨b147, 4, none⟩ = some (.int .i64 n_GrowBack207) ∧ w201.cell? ⟨b147, 5, none⟩ = some (s_Ins208.val) ∧ w201.cell? ⟨b147, 6, none⟩ = some (s_Outs209.val) ∧ w201.cell? ⟨b147, 7, none⟩ = some (.int .i64 n_Last210) ∧ w201.cell? ⟨b147, 8, none⟩ = some (s_Cells211.val) ∧
 Calls Try.prog fn_hollowaybook_Book_Trace #[.pointer (some ⟨b14, 0, none⟩), .agg #[.int .i64 n_Start203, .int .i64 n_Slots204, .int .i64 n_Backs205, .int .i64 n_Grow206, .int .i64 n_GrowBack207, s_Ins208.val, s_Outs209.val, .int .i64 n_Last210, s_Cells211.val]] w201 fun e212 w213 => e212 = .returned (.tuple #[]) ∧
 brB (decide (at33 ≥ (0 : Int)))
 (∃ n214 : Int, w213.cell? ⟨b22, 1, none⟩ = some (.int .i64 n214) ∧
 ∀ (b215 : Nat) (w216 : World), b215 = w213.heap.size → w216 = World.alloc w213 (.cells #[.int .i64 n214] T_int) →
 ∃ s217 : Sl, ∃ w218 : World, (Builtin.append_ #[T_sl_int, T_sl_int] T_sl_int #[order93.val, .slice (some ⟨b215, 0, none⟩) 1 1]).run Try.prog w216 = .ok (s217.val) w218 ∧
 ∀ (b219 : Nat) (w220 : World), b219 = w218.heap.size → w220 = World.alloc w218 (.cells #[.int .i64 v162] T_int) →
 ∃ s221 : Sl, ∃ w222 : World, (Builtin.append_ #[T_sl_int, T_sl_int] T_sl_int #[vals95.val, .slice (some ⟨b219, 0, none⟩) 1 1]).run Try.prog w220 = .ok (s221.val) w222 ∧
 J35 s217 s221 w222)
 (J35 order93 vals95 w213))) ∧
 ∀ w150 : World, w150 = World.drew w149 →
 ∃ S151 : World → Prop, S151 w150 ∧
 brB (!(b146 == (decide (at33 ≥ (0 : Int)))))
 (J53 true w150)
 (brB b146
 (∃ n_Start152 : Int, ∃ n_Slots153 : Int, ∃ n_Backs154 : Int, ∃ n_Grow155 : Int, ∃ n_GrowBack156 : Int, ∃ s_Ins157 : Sl, ∃ s_Outs158 : Sl, ∃ n_Last159 : Int, ∃ s_Cells160 : Sl, held S151 ⟨b147, 0, none⟩ (.int .i64 n_Start152) ∧ held S151 ⟨b147, 1, none⟩ (.int .i64 n_Slots153) ∧ held S151 ⟨b147, 2, none⟩ (.int .i64 n_Backs154) ∧ held S151 ⟨b147, 3, none⟩ (.int .i64 n_Grow155) ∧ held S151 ⟨b147, 4, none⟩ (.int .i64 n_GrowBack156) ∧ held S151 ⟨b147, 5, none⟩ (s_Ins157.val) ∧ held S151 ⟨b147, 6, none⟩ (s_Outs158.val) ∧ held S151 ⟨b147, 7, none⟩ (.int .i64 n_Last159) ∧ held S151 ⟨b147, 8, none⟩ (s_Cells160.val) ∧
 ∃ n161 : Int, held S151 ⟨b22, 1, none⟩ (.int .i64 n161) ∧
 Calls Try.prog fn_hollowaylaw21_trace #[.int .i64 n161, .int .i64 v162] w150 fun e163 w164 => ∃ n_Start165 : Int, ∃ n_Slots166 : Int, ∃ n_Backs167 : Int, ∃ n_Grow168 : Int, ∃ n_GrowBack169 : Int, ∃ s_Ins170 : Sl, ∃ s_Outs171 : Sl, ∃ n_Last172 : Int, ∃ s_Cells173 : Sl, e163 = .returned (.agg #[.int .i64 n_Start165, .int .i64 n_Slots166, .int .i64 n_Backs167, .int .i64 n_Grow168, .int .i64 n_GrowBack169, s_Ins170.val, s_Outs171.val, .int .i64 n_Last172, s_Cells173.val]) ∧
 S151 w164 ∧
 Calls Try.prog fn_hollowaybook_SameTrace #[.agg #[.int .i64 n_Start152, .int .i64 n_Slots153, .int .i64 n_Backs154, .int .i64 n_Grow155, .int .i64 n_GrowBack156, s_Ins157.val, s_Outs158.val, .int .i64 n_Last159, s_Cells160.val], .agg #[.int .i64 n_Start165, .int .i64 n_Slots166, .int .i64 n_Backs167, .int .i64 n_Grow168, .int .i64 n_GrowBack169, s_Ins170.val, s_Outs171.val, .int .i64 n_Last172, s_Cells173.val]] w164 fun e174 w175 => ∃ b176 : Bool, e174 = .returned (.bool b176) ∧
 S151 w175 ∧
 brB (!b176)
 (J53 true w175)
 (brB (!b146)
 (∃ n_Start177 : Int, ∃ n_Slots178 : Int, ∃ n_Backs179 : Int, ∃ n_Grow180 : Int, ∃ n_GrowBack181 : Int, ∃ s_Ins182 : Sl, ∃ s_Outs183 : Sl, ∃ n_Last184 : Int, ∃ s_Cells185 : Sl, held S151 ⟨b147, 0, none⟩ (.int .i64 n_Start177) ∧ held S151 ⟨b147, 1, none⟩ (.int .i64 n_Slots178) ∧ held S151 ⟨b147, 2, none⟩ (.int .i64 n_Backs179) ∧ held S151 ⟨b147, 3, none⟩ (.int .i64 n_Grow180) ∧ held S151 ⟨b147, 4, none⟩ (.int .i64 n_GrowBack181) ∧ held S151 ⟨b147, 5, none⟩ (s_Ins182.val) ∧ held S151 ⟨b147, 6, none⟩ (s_Outs183.val) ∧ held S151 ⟨b147, 7, none⟩ (.int .i64 n_Last184) ∧ held S151 ⟨b147, 8, none⟩ (s_Cells185.val) ∧
 S151 w175 ∧
 Calls Try.prog fn_hollowaybook_SameTrace #[.agg #[.int .i64 n_Start177, .int .i64 n_Slots178, .int .i64 n_Backs179, .int .i64 n_Grow180, .int .i64 n_GrowBack181, s_Ins182.val, s_Outs183.val, .int .i64 n_Last184, s_Cells185.val], .agg #[.int .i64 (0 : Int), .int .i64 (0 : Int), .int .i64 (0 : Int), .int .i64 (0 : Int), .int .i64 (0 : Int), .slice none 0 0, .slice none 0 0, .int .i64 (0 : Int), .slice none 0 0]] w175 fun e186 w187 => ∃ b188 : Bool, e186 = .returned (.bool b188) ∧
 J53 (!b188) w187)
 (J53 false w175)))
 (brB (!b146)
 (∃ n_Start189 : Int, ∃ n_Slots190 : Int, ∃ n_Backs191 : Int, ∃ n_Grow192 : Int, ∃ n_GrowBack193 : Int, ∃ s_Ins194 : Sl, ∃ s_Outs195 : Sl, ∃ n_Last196 : Int, ∃ s_Cells197 : Sl, held S151 ⟨b147, 0, none⟩ (.int .i64 n_Start189) ∧ held S151 ⟨b147, 1, none⟩ (.int .i64 n_Slots190) ∧ held S151 ⟨b147, 2, none⟩ (.int .i64 n_Backs191) ∧ held S151 ⟨b147, 3, none⟩ (.int .i64 n_Grow192) ∧ held S151 ⟨b147, 4, none⟩ (.int .i64 n_GrowBack193) ∧ held S151 ⟨b147, 5, none⟩ (s_Ins194.val) ∧ held S151 ⟨b147, 6, none⟩ (s_Outs195.val) ∧ held S151 ⟨b147, 7, none⟩ (.int .i64 n_Last196) ∧ held S151 ⟨b147, 8, none⟩ (s_Cells197.val) ∧
 S151 w150 ∧
 Calls Try.prog fn_hollowaybook_SameTrace #[.agg #[.int .i64 n_Start189, .int .i64 n_Slots190, .int .i64 n_Backs191, .int .i64 n_Grow192, .int .i64 n_GrowBack193, s_Ins194.val, s_Outs195.val, .int .i64 n_Last196, s_Cells197.val], .agg #[.int .i64 (0 : Int), .int .i64 (0 : Int), .int .i64 (0 : Int), .int .i64 (0 : Int), .int .i64 (0 : Int), .slice none 0 0, .slice none 0 0, .int .i64 (0 : Int), .slice none 0 0]] w150 fun e198 w199 => ∃ b200 : Bool, e198 = .returned (.bool b200) ∧
 J53 (!b200) w199)
 (J53 false w150))))
 (brB (n52 == (3 : Int))
 (∃ n223 : Int, w51.cell? ⟨b22, 1, none⟩ = some (.int .i64 n223) ∧
 Calls Try.prog fn_cache_Cache_Drop #[.pointer p13, .int .i64 n223] w51 fun e224 w225 => ∃ b226 : Bool, e224 = .returned (.bool b226) ∧
 brB (!(b226 == (decide (at33 ≥ (0 : Int)))))
 (K (.bool false) w225)
 (J35 order93 vals95 w225))
 (J35 order93 vals95 w51)))) ∧
 ∃ n38 : Int, w37.cell? ⟨b22, 0, none⟩ = some (.int .i64 n38) ∧
 ∃ J30 : Bool → World → Prop, (∀ (b40 : Bool) (w39 : World), J30 b40 w39 →
 brB b40
 (brB (decide (at33 ≥ (0 : Int)))
 (∀ w41 : World, w41 = World.drew w39 →
 0 ≤ at33 ∧ at33 ≤ (order27.cap : Int) ∧ 
 0 ≤ (wr (at33 + (1 : Int))) ∧ (wr (at33 + (1 : Int))) ≤ (order27.len : Int) ∧ 
 ∃ s42 : Sl, ∃ w43 : World, (Builtin.append_ #[T_sl_int, T_sl_int] T_sl_int #[.slice none 0 0, (Sl.sub order27.ptr order27.cap 0 (Int.toNat at33) 1).val]).run Try.prog w41 = .ok (s42.val) w43 ∧
 Tt w43 ∧
 ∃ s44 : Sl, ∃ w45 : World, (Builtin.append_ #[T_sl_int, T_sl_int] T_sl_int #[s42.val, (Sl.sub order27.ptr order27.cap (Int.toNat (wr (at33 + (1 : Int)))) order27.len 1).val]).run Try.prog w43 = .ok (s44.val) w45 ∧
 ∀ w46 : World, w46 = World.drew w45 →
 0 ≤ at33 ∧ at33 ≤ (vals34.cap : Int) ∧ 
 0 ≤ (wr (at33 + (1 : Int))) ∧ (wr (at33 + (1 : Int))) ≤ (vals34.len : Int) ∧ 
 ∃ s47 : Sl, ∃ w48 : World, (Builtin.append_ #[T_sl_int, T_sl_int] T_sl_int #[.slice none 0 0, (Sl.sub vals34.ptr vals34.cap 0 (Int.toNat at33) 1).val]).run Try.prog w46 = .ok (s47.val) w48 ∧
 Tt w48 ∧
 ∃ s49 : Sl, ∃ w50 : World, (Builtin.append_ #[T_sl_int, T_sl_int] T_sl_int #[s47.val, (Sl.sub vals34.ptr vals34.cap (Int.toNat (wr (at33 + (1 : Int)))) vals34.len 1).val]).run Try.prog w48 = .ok (s49.val) w50 ∧
 J28 s44 s49 w50)
 (J28 order27 vals34 w39))
 (J28 order27 vals34 w39)) ∧
 brB (n38 == (1 : Int))
 (J30 (n38 == (1 : Int)) w37)
 (brB (n38 == (2 : Int))
 (J30 (n38 == (2 : Int)) w37)
 (J30 (n38 == (3 : Int)) w37))) ∧
 brB (decide (at33 ≥ (0 : Int)))
 (∃ a35 : Addr, vals34.ptr = some a35 ∧ 0 ≤ at33 ∧ at33 < (vals34.len : Int) ∧
 ∃ n36 : Int, w25.cell? (Addr.add a35 (Int.toNat at33 * 1)) = some (.int .i64 n36) ∧
 J26 n36 w25)
 (J26 (0 : Int) w25)))
 (Calls Try.prog fn_cache_Cache_Get #[.pointer none, .int .i64 (1 : Int)] w16 fun e284 w285 => ∃ n_Start286 : Int, ∃ n_Slots287 : Int, ∃ n_Backs288 : Int, ∃ n_Grow289 : Int, ∃ n_GrowBack290 : Int, ∃ s_Ins291 : Sl, ∃ s_Outs292 : Sl, ∃ n_Last293 : Int, ∃ s_Cells294 : Sl, ∃ b295 : Bool, e284 = .returned (.tuple #[.agg #[.int .i64 n_Start286, .int .i64 n_Slots287, .int .i64 n_Backs288, .int .i64 n_Grow289, .int .i64 n_GrowBack290, s_Ins291.val, s_Outs292.val, .int .i64 n_Last293, s_Cells294.val], .bool b295]) ∧
 ∀ (b296 : Nat) (w297 : World), b296 = w285.heap.size → w297 = World.alloc w285 (.cells #[.int .i64 (0 : Int), .int .i64 (0 : Int), .int .i64 (0 : Int), .int .i64 (0 : Int), .int .i64 (0 : Int), .slice none 0 0, .slice none 0 0, .int .i64 (0 : Int), .slice none 0 0] T_api_Trace) →
 wrOk w297 ⟨b296, 0, none⟩ 9 ∧ ∀ w298 : World, w298 = stW w297 ⟨b296, 0, none⟩ 0 [.int .i64 n_Start286, .int .i64 n_Slots287, .int .i64 n_Backs288, .int .i64 n_Grow289, .int .i64 n_GrowBack290, s_Ins291.val, s_Outs292.val, .int .i64 n_Last293, s_Cells294.val] →
 Calls Try.prog fn_cache_Cache_Eldest #[.pointer none] w298 fun e299 w300 => ∃ n301 : Int, ∃ b302 : Bool, e299 = .returned (.tuple #[.int .i64 n301, .bool b302]) ∧
 brB (!b295)
 (brB (!b302)
 (Calls Try.prog fn_hollowaylaw21_trace #[.int .i64 (1 : Int), .int .i64 (1 : Int)] w300 fun e303 w304 => ∃ n_Start305 : Int, ∃ n_Slots306 : Int, ∃ n_Backs307 : Int, ∃ n_Grow308 : Int, ∃ n_GrowBack309 : Int, ∃ s_Ins310 : Sl, ∃ s_Outs311 : Sl, ∃ n_Last312 : Int, ∃ s_Cells313 : Sl, e303 = .returned (.agg #[.int .i64 n_Start305, .int .i64 n_Slots306, .int .i64 n_Backs307, .int .i64 n_Grow308, .int .i64 n_GrowBack309, s_Ins310.val, s_Outs311.val, .int .i64 n_Last312, s_Cells313.val]) ∧
 Calls Try.prog fn_cache_Cache_Put #[.pointer none, .agg #[.int .i64 n_Start305, .int .i64 n_Slots306, .int .i64 n_Backs307, .int .i64 n_Grow308, .int .i64 n_GrowBack309, s_Ins310.val, s_Outs311.val, .int .i64 n_Last312, s_Cells313.val]] w304 fun e314 w315 => ∃ s316 : Sl, e314 = .returned (s316.val) ∧
 Calls Try.prog fn_cache_Cache_Starts #[.pointer none] w315 fun e317 w318 => ∃ s319 : Sl, e317 = .returned (s319.val) ∧
 Calls Try.prog fn_cache_Cache_Len #[.pointer none] w318 fun e320 w321 => ∃ n322 : Int, e320 = .returned (.int .i64 n322) ∧
 brB ((wr ((wr ((s316.len : Int) + (s319.len : Int))) + n322)) == (0 : Int))
 (Calls Try.prog fn_cache_Cache_Has #[.pointer none, .int .i64 (1 : Int)] w321 fun e323 w324 => ∃ b325 : Bool, e323 = .returned (.bool b325) ∧
 brB (!b325)
 (Calls Try.prog fn_cache_Cache_Drop #[.pointer none, .int .i64 (1 : Int)] w324 fun e326 w327 => ∃ b328 : Bool, e326 = .returned (.bool b328) ∧
 brB (!b328)
 (Calls Try.prog fn_hollowaybook_Book_Apart #[.pointer (some ⟨b14, 0, none⟩)] w327 fun e329 w330 => ∃ b331 : Bool, e329 = .returned (.bool b331) ∧
 K (.bool b331) w330)
 (K (.bool false) w327))
 (K (.bool false) w324))
 (K (.bool false) w321))
 (K (.bool false) w300))
 (K (.bool false) w300))))) ∧
 brB (decide ((l_2.len : Int) > (120 : Int)))
 (J3 true w)
 (Calls Try.prog fn_hollowaylaw21_alive #[] w fun e3 w4 => ∃ b5 : Bool, e3 = .returned (.bool b5) ∧
 J3 (!b5) w4)
def hollowaylaw21_CachePlays_an : An := ⟨[(10, [(7, .sl), (8, .sl), (10, .int .i64)]), (15, [(12, .int .i64), (13, .int .i64)]), (37, [(7, .sl), (8, .sl), (17, .sl)]), (57, [(23, .bool), (24, .int .i64)])], [(17, (7, .st 0 (.st 1 (.st 2 (.st 3 (.st 4 (.st 5 (.st 6 .done)))))), 0)), (27, (8, .st 0 (.st 1 (.st 2 (.st 4 (.st 5 (.st 6 (.st 7 (.ef 3 .done))))))), 2)), (28, (8, .st 0 (.st 1 (.st 2 (.st 4 (.st 5 (.st 6 (.st 7 (.ef 3 .done))))))), 2)), (33, (7, .st 0 (.st 1 (.st 2 (.st 3 (.st 4 (.st 5 (.ef 6 .done)))))), 1)), (35, (9, .st 0 (.st 1 (.st 2 (.st 5 (.st 6 (.st 7 (.two 3 (.two 4 (.ef 8 .done) 8 (.ef 4 .done)) 8 (.ef 3 (.ef 4 .done)))))))), 1)), (39, (6, .st 0 (.st 1 (.st 2 (.st 3 (.st 4 (.st 5 .done))))), 0)), (44, (22, .st 0 (.st 1 (.st 2 (.st 3 (.st 4 (.st 5 (.st 6 (.st 7 (.st 8 (.st 9 (.st 10 (.ef 11 (.ef 12 (.st 13 (.st 14 (.st 15 (.st 16 (.st 17 (.st 18 (.st 19 (.st 20 (.ef 21 .done))))))))))))))))))))), 1)), (59, (11, .st 0 (.st 1 (.st 2 (.st 3 (.st 4 (.st 5 (.st 6 (.st 7 (.st 8 (.st 9 (.st 10 .done)))))))))), 0))], [(2, [(36, .bool)]), (16, [(12, .int .i64)]), (26, [(79, .bool)]), (36, [(7, .sl), (8, .sl)]), (45, [(187, .bool)]), (58, [(23, .bool)]), (61, [(286, .bool)]), (52, [(7, .sl), (8, .sl)]), (29, [(7, .sl), (8, .sl)]), (22, [(14, .int .i64)])]⟩
theorem hollowaylaw21_CachePlays_lift {most1 : Int} {l_2 : Sl} {w : World} {K : Value → World → Prop} (h : hollowaylaw21_CachePlays_sh most1 l_2 w K) : Calls Try.prog fn_hollowaylaw21_CachePlays #[.int .i64 most1, l_2.val] w fun e w' => ∃ v, e = .returned v ∧ K v w' :=
   lift_calls (A := hollowaylaw21_CachePlays_an) (c := bodyOf Try.f3) (args := [.int .i64 most1, l_2.val]) orc orc_wide Try.func3 (by kernel_rfl) (by kernel_rfl) (Eq.mp (by kernel_rfl : hollowaylaw21_CachePlays_sh most1 l_2 w K = wpc orc Try.f3.ntmps hollowaylaw21_CachePlays_an (bodyOf Try.f3) (argl 0 [.int .i64 most1, l_2.val]) w (retQ orc Try.f3.results.toList K)) h)

-- holloway/hollowaylaw21.alive
def hollowaylaw21_alive_sh  (w : World) (K : Value → World → Prop) : Prop :=
 Calls Try.prog fn_cache_New #[.int .i64 (1 : Int)] w fun e1 w2 => ∃ p3 : Option Addr, e1 = .returned (.pointer p3) ∧
 brB (Option.isNone p3)
 (K (.bool false) w2)
 (Calls Try.prog fn_hollowaylaw21_trace #[.int .i64 (5 : Int), .int .i64 (1 : Int)] w2 fun e4 w5 => ∃ n_Start6 : Int, ∃ n_Slots7 : Int, ∃ n_Backs8 : Int, ∃ n_Grow9 : Int, ∃ n_GrowBack10 : Int, ∃ s_Ins11 : Sl, ∃ s_Outs12 : Sl, ∃ n_Last13 : Int, ∃ s_Cells14 : Sl, e4 = .returned (.agg #[.int .i64 n_Start6, .int .i64 n_Slots7, .int .i64 n_Backs8, .int .i64 n_Grow9, .int .i64 n_GrowBack10, s_Ins11.val, s_Outs12.val, .int .i64 n_Last13, s_Cells14.val]) ∧
 Calls Try.prog fn_cache_Cache_Put #[.pointer p3, .agg #[.int .i64 n_Start6, .int .i64 n_Slots7, .int .i64 n_Backs8, .int .i64 n_Grow9, .int .i64 n_GrowBack10, s_Ins11.val, s_Outs12.val, .int .i64 n_Last13, s_Cells14.val]] w5 fun e15 w16 => ∃ s17 : Sl, e15 = .returned (s17.val) ∧
 Calls Try.prog fn_hollowaylaw21_trace #[.int .i64 (7 : Int), .int .i64 (2 : Int)] w16 fun e18 w19 => ∃ n_Start20 : Int, ∃ n_Slots21 : Int, ∃ n_Backs22 : Int, ∃ n_Grow23 : Int, ∃ n_GrowBack24 : Int, ∃ s_Ins25 : Sl, ∃ s_Outs26 : Sl, ∃ n_Last27 : Int, ∃ s_Cells28 : Sl, e18 = .returned (.agg #[.int .i64 n_Start20, .int .i64 n_Slots21, .int .i64 n_Backs22, .int .i64 n_Grow23, .int .i64 n_GrowBack24, s_Ins25.val, s_Outs26.val, .int .i64 n_Last27, s_Cells28.val]) ∧
 Calls Try.prog fn_cache_Cache_Put #[.pointer p3, .agg #[.int .i64 n_Start20, .int .i64 n_Slots21, .int .i64 n_Backs22, .int .i64 n_Grow23, .int .i64 n_GrowBack24, s_Ins25.val, s_Outs26.val, .int .i64 n_Last27, s_Cells28.val]] w19 fun e29 w30 => ∃ s31 : Sl, e29 = .returned (s31.val) ∧
 Calls Try.prog fn_cache_Cache_Starts #[.pointer p3] w30 fun e32 w33 => ∃ s34 : Sl, e32 = .returned (s34.val) ∧
 brB ((s17.len : Int) == (0 : Int))
 (brB ((s31.len : Int) == (1 : Int))
 (∃ a35 : Addr, s31.ptr = some a35 ∧ 0 ≤ (0 : Int) ∧ (0 : Int) < (s31.len : Int) ∧
 ∃ n36 : Int, w33.cell? (Addr.add a35 (Int.toNat (0 : Int) * 1)) = some (.int .i64 n36) ∧
 brB (n36 == (5 : Int))
 (brB ((s34.len : Int) == (1 : Int))
 (∃ a37 : Addr, s34.ptr = some a37 ∧ 0 ≤ (0 : Int) ∧ (0 : Int) < (s34.len : Int) ∧
 ∃ n38 : Int, w33.cell? (Addr.add a37 (Int.toNat (0 : Int) * 1)) = some (.int .i64 n38) ∧
 brB (n38 == (7 : Int))
 (Calls Try.prog fn_cache_Cache_Len #[.pointer p3] w33 fun e39 w40 => ∃ n41 : Int, e39 = .returned (.int .i64 n41) ∧
 brB (n41 == (1 : Int))
 (Calls Try.prog fn_cache_Cache_Has #[.pointer p3, .int .i64 (7 : Int)] w40 fun e42 w43 => ∃ b44 : Bool, e42 = .returned (.bool b44) ∧
 K (.bool b44) w43)
 (K (.bool false) w40))
 (K (.bool false) w33))
 (K (.bool false) w33))
 (K (.bool false) w33))
 (K (.bool false) w33))
 (K (.bool false) w33))
def hollowaylaw21_alive_an : An := ⟨[], [], []⟩
theorem hollowaylaw21_alive_lift  {w : World} {K : Value → World → Prop} (h : hollowaylaw21_alive_sh  w K) : Calls Try.prog fn_hollowaylaw21_alive #[] w fun e w' => ∃ v, e = .returned v ∧ K v w' :=
   lift_calls (A := hollowaylaw21_alive_an) (c := bodyOf Try.f4) (args := []) orc orc_wide Try.func4 (by kernel_rfl) (by kernel_rfl) (Eq.mp (by kernel_rfl : hollowaylaw21_alive_sh  w K = wpc orc Try.f4.ntmps hollowaylaw21_alive_an (bodyOf Try.f4) (argl 0 []) w (retQ orc Try.f4.results.toList K)) h)

-- holloway/hollowaylaw21.trace
def hollowaylaw21_trace_sh (start1 : Int) (v_2 : Int) (w : World) (K : Value → World → Prop) : Prop :=
 ∀ (b3 : Nat) (w4 : World), b3 = w.heap.size → w4 = World.alloc w (.cells #[.int .i64 (0 : Int), .int .i64 (0 : Int), .int .i64 (0 : Int), .int .i64 (0 : Int), .int .i64 (0 : Int), .slice none 0 0, .slice none 0 0, .int .i64 (0 : Int), .slice none 0 0] T_api_Trace) →
 ∀ (b5 : Nat) (w6 : World), b5 = w4.heap.size → w6 = World.alloc w4 (.cells #[.int .i64 (1 : Int), .int .i64 v_2, .int .i64 (0 : Int), .int .i64 (0 : Int), .int .i64 (0 : Int)] T_api_Ins) →
 ∀ (b7 : Nat) (w8 : World), b7 = w6.heap.size → w8 = World.alloc w6 (.cells #[.int .i64 (5 : Int), .int .i64 (1 : Int), .slice none 0 0, .slice none 0 0] T_api_Out) →
 ∀ (b9 : Nat) (w10 : World), b9 = w8.heap.size → w10 = World.alloc w8 (.cells #[.int .i64 (1 : Int)] T_int) →
 wrOk w10 ⟨b3, 0, none⟩ 9 ∧ ∀ w11 : World, w11 = stW w10 ⟨b3, 0, none⟩ 0 [.int .i64 start1, .int .i64 (0 : Int), .int .i64 (0 : Int), .int .i64 (0 : Int), .int .i64 (0 : Int), .slice (some ⟨b5, 0, none⟩) 1 1, .slice (some ⟨b7, 0, none⟩) 1 1, .int .i64 (0 : Int), .slice (some ⟨b9, 0, none⟩) 1 1] →
 ∃ r_Start12 : Int, ∃ r_Slots13 : Int, ∃ r_Backs14 : Int, ∃ r_Grow15 : Int, ∃ r_GrowBack16 : Int, ∃ r_Ins17 : Sl, ∃ r_Outs18 : Sl, ∃ r_Last19 : Int, ∃ r_Cells20 : Sl, w11.cell? ⟨b3, 0, none⟩ = some (.int .i64 r_Start12) ∧ w11.cell? ⟨b3, 1, none⟩ = some (.int .i64 r_Slots13) ∧ w11.cell? ⟨b3, 2, none⟩ = some (.int .i64 r_Backs14) ∧ w11.cell? ⟨b3, 3, none⟩ = some (.int .i64 r_Grow15) ∧ w11.cell? ⟨b3, 4, none⟩ = some (.int .i64 r_GrowBack16) ∧ w11.cell? ⟨b3, 5, none⟩ = some (r_Ins17.val) ∧ w11.cell? ⟨b3, 6, none⟩ = some (r_Outs18.val) ∧ w11.cell? ⟨b3, 7, none⟩ = some (.int .i64 r_Last19) ∧ w11.cell? ⟨b3, 8, none⟩ = some (r_Cells20.val) ∧
 K (.agg #[.int .i64 r_Start12, .int .i64 r_Slots13, .int .i64 r_Backs14, .int .i64 r_Grow15, .int .i64 r_GrowBack16, r_Ins17.val, r_Outs18.val, .int .i64 r_Last19, r_Cells20.val]) w11
def hollowaylaw21_trace_an : An := ⟨[], [], []⟩
theorem hollowaylaw21_trace_lift {start1 : Int} {v_2 : Int} {w : World} {K : Value → World → Prop} (h : hollowaylaw21_trace_sh start1 v_2 w K) : Calls Try.prog fn_hollowaylaw21_trace #[.int .i64 start1, .int .i64 v_2] w fun e w' => ∃ v, e = .returned v ∧ K v w' :=
   lift_calls (A := hollowaylaw21_trace_an) (c := bodyOf Try.f6) (args := [.int .i64 start1, .int .i64 v_2]) orc orc_wide Try.func6 (by kernel_rfl) (by kernel_rfl) (Eq.mp (by kernel_rfl : hollowaylaw21_trace_sh start1 v_2 w K = wpc orc Try.f6.ntmps hollowaylaw21_trace_an (bodyOf Try.f6) (argl 0 [.int .i64 start1, .int .i64 v_2]) w (retQ orc Try.f6.results.toList K)) h)

end Go.Proofs.Ytlpbdloloaoapaa

/- The cache in the laws of chapter 21: its traces, Put, Starts, the first call. -/
set_option maxRecDepth 100000
namespace Go.Proofs.Ytlpbdloloaoapaa
open Go.RowKit

/-- A cache in blocks from b0 on. -/
def Ca (b0 : Nat) (w : World) (c : Nat) (most : Int) (vs : List TrV) : Prop := ∃ B : Nat → Prop, (∀ k, B k → b0 ≤ k) ∧ CAt B w c most vs
theorem Ca.no {b0 : Nat} {w w' : World} {c : Nat} {most : Int} {vs : List TrV} (h : Ca b0 w c most vs) (k : Chg No w w') : Ca b0 w' c most vs := by
  obtain ⟨B, h1, h2⟩ := h; exact ⟨B, h1, h2.no k⟩
def trV (start v : Int) : TrV := ⟨start, 0, 0, 0, 0, [⟨1, v, 0, 0, 0⟩], [(5, 1)], 0, [1]⟩
theorem trV_small (start v : Int) : SmV (trV start v) := ⟨by show 1 ≤ _; omega, by show 1 ≤ _; omega, by show 1 ≤ _; omega⟩
theorem trace_any (start v : Int) (w : World) : Calls Try.prog fn_hollowaylaw21_trace #[.int .i64 start, .int .i64 v] w fun e w' => ∃ t : Tr, e = .returned (.agg (trC t).toArray) ∧ TrIs (fun k => w.heap.size ≤ k ∧ k < w'.heap.size) w' t (trV start v) ∧ Chg No w w' := by
  refine (hollowaylaw21_trace_lift (K := fun r w' => ∃ t : Tr, r = .agg (trC t).toArray ∧ TrIs (fun k => w.heap.size ≤ k ∧ k < w'.heap.size) w' t (trV start v) ∧ Chg No w w') ?_).mono (by rintro e w' ⟨v, rfl, t', rfl, h⟩; exact ⟨t', rfl, h⟩)
  unfold hollowaylaw21_trace_sh
  intro b3 w4 hb3 hw4
  have o4 : Ob w4 b3 (trC tr0) T_api_Trace := by rw [hw4, hb3]; exact Ob.new w (trC tr0) T_api_Trace
  have c4 : Chg No w w4 := by rw [hw4]; exact Chg.alloc _ _ _
  intro b5 w6 hb5 hw6
  have h6 : Ow insE w6 ⟨some ⟨b5, 0, none⟩, 1, 1⟩ [⟨1, v, 0, 0, 0⟩] := by
    rw [hw6, hb5]; exact Ow.lit (E := insE) w4 [⟨1, v, 0, 0, 0⟩] (insE.e ⟨1, v, 0, 0, 0⟩) (by rw [fl_one]) (by show 1 ≤ maxLen; unfold maxLen; omega)
  have c6 : Chg No w4 w6 := by rw [hw6]; exact Chg.alloc _ _ _
  intro b7 w8 hb7 hw8
  have h8 : Ow ouE w8 ⟨some ⟨b7, 0, none⟩, 1, 1⟩ [(5, 1)] := by
    rw [hw8, hb7]; exact Ow.lit (E := ouE) w6 [(5, 1)] (ouE.e (5, 1)) (by rw [fl_one]) (by show 1 ≤ maxLen; unfold maxLen; omega)
  have c8 : Chg No w6 w8 := by rw [hw8]; exact Chg.alloc _ _ _
  intro b9 w10 hb9 hw10
  have h10 : Ow intE w10 ⟨some ⟨b9, 0, none⟩, 1, 1⟩ [1] := by
    rw [hw10, hb9]; exact Ow.lit (E := intE) w8 [1] (intE.e 1) (by rw [fl_one]) (by show 1 ≤ maxLen; unfold maxLen; omega)
  have c10 : Chg No w8 w10 := by rw [hw10]; exact Chg.alloc _ _ _
  have o10 := ((o4.no c6).no c8).no c10
  refine ⟨o10.wr (by simp [trC]), ?_⟩
  intro w11 hw11
  obtain ⟨t, ht⟩ : ∃ t : Tr, t = ⟨start, 0, 0, 0, 0, ⟨some ⟨b5, 0, none⟩, 1, 1⟩, ⟨some ⟨b7, 0, none⟩, 1, 1⟩, 0, ⟨some ⟨b9, 0, none⟩, 1, 1⟩⟩ := ⟨_, rfl⟩
  have o11 : Ob w11 b3 (trC t) T_api_Trace := by
    have := Ob.st (vs := trC t) (k := 0) (i := 0) o10
    rw [trC_whole] at this
    rw [hw11, ht]; rw [ht] at this; exact this
  have c11 : Chg (fun k => k = b3) w10 w11 := by rw [hw11]; exact Chg.st (S := fun k => k = b3) rfl
  have s4 := c4.size
  have s6 := c6.size
  have s8 := c8.size
  have s10 := c10.size
  have s11 := c11.size
  have l3 := o4.lt
  have l5 : b5 < w6.heap.size := h6.lt rfl
  have l7 : b7 < w8.heap.size := h8.lt rfl
  have l9 : b9 < w10.heap.size := h10.lt rfl
  refine ⟨t.start, t.slots, t.backs, t.grow, t.growBack, t.ins, t.outs, t.last, t.cells, o11.cell rfl, o11.cell rfl, o11.cell rfl, o11.cell rfl, o11.cell rfl, o11.cell rfl, o11.cell rfl, o11.cell rfl, o11.cell rfl, t, rfl, ?_, ?_⟩
  · subst ht
    have e5 : ∀ k, (⟨some ⟨b5, 0, none⟩, 1, 1⟩ : Sl).blk = some k → k = b5 := fun k hk => (Option.some.inj hk).symm
    have e7 : ∀ k, (⟨some ⟨b7, 0, none⟩, 1, 1⟩ : Sl).blk = some k → k = b7 := fun k hk => (Option.some.inj hk).symm
    have e9 : ∀ k, (⟨some ⟨b9, 0, none⟩, 1, 1⟩ : Sl).blk = some k → k = b9 := fun k hk => (Option.some.inj hk).symm
    refine ⟨⟨rfl, rfl, rfl, rfl, rfl, rfl⟩, (((h6.no c8).no c10).chg c11 (fun k hk he => by have := e5 k hk; omega)).rd, ((h8.no c10).chg c11 (fun k hk he => by have := e7 k hk; omega)).rd, (h10.chg c11 (fun k hk he => by have := e9 k hk; omega)).rd, fun k hk => ?_, fun k hk => ?_, fun k hk => ?_⟩
    · have := e5 k hk; omega
    · have := e7 k hk; omega
    · have := e9 k hk; omega
  · have c : Chg No w w10 := ((c4.trans c6 (fun _ _ h => h) (fun _ _ h => h)).trans c8 (fun _ _ h => h) (fun _ _ h => h)).trans c10 (fun _ _ h => h) (fun _ _ h => h)
    exact c.trans c11 (fun _ _ h => h) (fun k hk he => by omega)
theorem ca_put {b0 : Nat} {w w5 : World} {c : Nat} {most : Int} {vs : List TrV} {t : Tr} {v : TrV} (h : Ca b0 w c most vs) (hb : b0 ≤ w.heap.size) (c5 : Chg No w w5) (ht : TrIs (fun k => w.heap.size ≤ k ∧ k < w5.heap.size) w5 t v) (hv : SmV v) (hm : 0 ≤ most) (hl : vs.length ≤ 100000) (hx : v.start ∉ vs.map (·.start)) :
    Calls Try.prog fn_cache_Cache_Put #[.pointer (some ⟨c, 0, none⟩), .agg (trC t).toArray] w5 fun e w' => ∃ g : Sl, e = .returned g.val ∧ Ow intE w' g (((vs ++ [v]).take ((vs ++ [v]).length - most.toNat)).map (·.start)) ∧ Ca b0 w' c most ((vs ++ [v]).drop ((vs ++ [v]).length - most.toNat)) ∧ Chg (fun k => b0 ≤ k) w5 w' := by
  obtain ⟨B, h1, h2⟩ := h
  have s5 := c5.size
  have hB5 : CAt (fun k => (B k ∧ k < w.heap.size) ∨ w5.heap.size ≤ k) w5 c most vs := (h2.nar.no c5).wid (fun k hk => Or.inl hk)
  refine (put_new hB5 hm t v ht hv (fun k hk => Or.inr hk) (fun k hk => by omega) hl hx).mono ?_
  rintro e w' ⟨g, rfl, hg, hc, hch, _⟩
  have hle : ∀ k, ((B k ∧ k < w.heap.size) ∨ w5.heap.size ≤ k) → b0 ≤ k := fun k hk => by
    rcases hk with hk | hk
    · exact h1 k hk.1
    · omega
  exact ⟨g, rfl, hg, ⟨_, fun k hk => hle k hk.1, hc⟩, hch.mono (fun k _ hk => hle k hk)⟩
theorem starts_any {b0 : Nat} {w : World} {c : Nat} {most : Int} {vs : List TrV} (h : Ca b0 w c most vs) (hl : vs.length ≤ 100000) : Calls Try.prog fn_cache_Cache_Starts #[.pointer (some ⟨c, 0, none⟩)] w fun e w' => ∃ s' : Sl, e = .returned s'.val ∧ Ow intE w' s' (vs.map (·.start)) ∧ Chg No w w' := by
  refine (cache_Cache_Starts_lift (K := fun r w' => ∃ s' : Sl, r = s'.val ∧ Ow intE w' s' (vs.map (·.start)) ∧ Chg No w w') ?_).mono (by rintro e w' ⟨v, rfl, t', rfl, h⟩; exact ⟨t', rfl, h⟩)
  have tr : ∀ {x y z : World}, Chg No x y → Chg No y z → Chg No x z := fun h k => h.trans k (fun _ _ h => h) (fun _ _ h => h)
  unfold cache_Cache_Starts_sh
  obtain ⟨B, _, s, l, h1, h2, h3, h4, h5, h6⟩ := h
  have hst := starts_eq h5 h6
  have hlen := h2.rd.len
  refine ⟨s, h1.cell rfl, ?_⟩
  rw [← hst]
  refine ⟨fun o n w' => ∃ k : Nat, n = k ∧ k ≤ l.length ∧ Ow intE w' o ((l.take k).map (·.start)) ∧ (∀ k, o.blk = some k → w.heap.size ≤ k) ∧ Chg No w w', fun o n _ => l.length - n.toNat, ⟨0, rfl, Nat.zero_le _, Ow.nil _ _, (fun k hk => by cases hk), Chg.refl _ _⟩, ?_⟩
  rintro o n w3 ⟨k, rfl, hk, ho, hob, hc⟩
  refine brB_of (fun hlt => ?_) (fun hlt => ?_)
  · have hlt : k < l.length := by simp at hlt; omega
    obtain ⟨t, ht⟩ : ∃ t, l[k]? = some t := ⟨_, List.getElem?_eq_getElem hlt⟩
    refine (h2.rd.no hc).ix (by omega) (by rw [Int.toNat_natCast]; exact ht) fun a ha hcell => ?_
    have e0 : ∀ q : Addr, q.add 0 = q := fun q => by unfold Addr.add; simp
    have c0 := hcell 0 _ rfl
    rw [e0] at c0
    refine ⟨_, _, _, _, _, t.ins, t.outs, _, t.cells, c0, hcell 1 _ rfl, hcell 2 _ rfl, hcell 3 _ rfl, hcell 4 _ rfl, hcell 5 _ rfl, hcell 6 _ rfl, hcell 7 _ rfl, hcell 8 _ rfl, ?_⟩
    intro b15 w16 hb15 hw16
    have o16 : Ob w16 b15 (trC tr0) T_api_Trace := by rw [hw16, hb15]; exact Ob.new w3 (trC tr0) T_api_Trace
    have c16 : Chg No w3 w16 := by rw [hw16]; exact Chg.alloc _ _ _
    refine ⟨o16.wr (by simp [trC]), ?_⟩
    intro w17 hw17
    have o17 : Ob w17 b15 (trC t) T_api_Trace := by
      have := Ob.st (vs := trC t) (k := 0) (i := 0) o16
      rw [trC_whole] at this
      rw [hw17]; exact this
    have c17 : Chg No w3 w17 := by
      rw [hw17]
      exact c16.trans (Chg.st (S := fun k => k = b15) rfl) (fun _ _ h => h) (fun j hj he => by omega)
    refine ⟨_, o17.cell rfl, ?_⟩
    intro b20 w21 hb20 hw21
    have c21 : Chg No w17 w21 := by rw [hw21]; exact Chg.alloc _ _ _
    have hlit : Ow intE w21 ⟨some ⟨b20, 0, none⟩, 1, 1⟩ [t.start] := by
      rw [hw21, hb20]
      exact Ow.lit w17 [t.start] [.int .i64 t.start] (by rw [fl_one]; rfl) (by show 1 ≤ maxLen; unfold maxLen; omega)
    have hol : ((l.take k).map (·.start)).length = k := by rw [List.length_map, List.length_take]; omega
    refine app_ok intOk rfl rfl ((ho.no c17).no c21) hlit.rd (by rw [hol]; show (k + 1) * 8 ≤ _; omega) (by rw [hol]; show k + 1 ≤ _; unfold maxLen; omega) ?_
    intro o' w23 ho' c23 hbk
    have s3 := hc.size
    have s17 := c17.size
    have s21 := c21.size
    rw [wr_of (by omega) (by omega)]
    refine ⟨⟨k + 1, by omega, by omega, ?_, fun j hj => ?_, ?_⟩, by show l.length - Int.toNat ((k : Int) + 1) < l.length - Int.toNat (k : Int); omega⟩
    · have e1 : (l.take k).map (·.start) ++ [t.start] = (l.take (k + 1)).map (·.start) := by
        rw [List.take_add_one, ht, List.map_append]; rfl
      rw [← e1]; exact ho'
    · rcases hbk with hh | hh
      · rw [hh] at hj; exact hob j hj
      · have := Option.some.inj (hh.symm.trans hj); omega
    · exact (tr (tr hc c17) c21).trans c23 (fun _ _ h => h) (fun j hj he => by have := hob j he; omega)
  · have hlt : k = l.length := by simp at hlt; omega
    subst hlt
    rw [List.take_length] at ho
    exact ⟨o, rfl, ho, hc⟩
theorem Rd.get {α : Type} {E : Enc α} {w : World} {s : Sl} {xs : List α} (h : Rd E w s xs) {x : α} (hx : xs[0]? = some x) {u : Value} (hu : (E.e x)[0]? = some u) {G : Addr → Prop} (k : ∀ a, s.ptr = some a → w.cell? (a.add (Int.toNat 0 * E.sz)) = some u → G a) : ∃ a, s.ptr = some a ∧ 0 ≤ (0 : Int) ∧ (0 : Int) < (s.len : Int) ∧ G a := by
  refine h.ix (i := 0) (Int.le_refl 0) hx fun a ha hc => k a ha ?_
  have := hc 0 u hu
  have e0 : ∀ q : Addr, q.add 0 = q := fun q => by unfold Addr.add; simp
  rwa [e0] at this
theorem alive21_any (w : World) : Calls Try.prog fn_hollowaylaw21_alive #[] w fun e w' => e = .returned (.bool true) ∧ Chg No w w' := by
  refine (hollowaylaw21_alive_lift (K := fun v w' => v = .bool true ∧ Chg No w w') ?_).mono (by rintro e w' ⟨v, rfl, rfl, h⟩; exact ⟨rfl, h⟩)
  have tr : ∀ {x y z : World}, Chg No x y → Chg No y z → Chg No x z := fun h k => h.trans k (fun _ _ h => h) (fun _ _ h => h)
  unfold hollowaylaw21_alive_sh
  refine (cnew_any 1 w).mono ?_
  rintro e w2 ⟨c, rfl, h2, hc2⟩
  have h2 : Ca w.heap.size w2 c 1 [] := ⟨_, fun k hk => hk, h2⟩
  refine ⟨_, rfl, brB_f ?_⟩
  refine (trace_any 5 1 w2).mono ?_
  rintro e w5 ⟨t, rfl, ht, hc5⟩
  refine ⟨_, _, _, _, _, t.ins, t.outs, _, t.cells, rfl, ?_⟩
  refine (ca_put h2 hc2.size hc5 ht (trV_small _ _) (by omega) (by simp) (by simp)).mono ?_
  rintro e w16 ⟨s17, rfl, g17, h16, hc16⟩
  have l17 : s17.len = 0 := g17.lenOf
  have h16 : Ca w.heap.size w16 c 1 [trV 5 1] := h16
  have cw16 : Chg No w w16 := (tr hc2 hc5).trans hc16 (fun _ _ h => h) (fun k hk he => by omega)
  refine ⟨s17, rfl, ?_⟩
  refine (trace_any 7 2 w16).mono ?_
  rintro e w19 ⟨t2, rfl, ht2, hc19⟩
  refine ⟨_, _, _, _, _, t2.ins, t2.outs, _, t2.cells, rfl, ?_⟩
  refine (ca_put h16 cw16.size hc19 ht2 (trV_small _ _) (by omega) (by simp) (by simp [trV])).mono ?_
  rintro e w30 ⟨s31, rfl, g31, h30, hc30⟩
  have g31 : Ow intE w30 s31 [5] := g31
  have h30 : Ca w.heap.size w30 c 1 [trV 7 2] := h30
  have cw30 : Chg No w w30 := (tr cw16 hc19).trans hc30 (fun _ _ h => h) (fun k hk he => by omega)
  refine ⟨s31, rfl, ?_⟩
  refine (starts_any h30 (by simp)).mono ?_
  rintro e w33 ⟨s34, rfl, g34, hc33⟩
  have g34 : Ow intE w33 s34 [7] := g34
  have l31 : s31.len = 1 := g31.lenOf
  have l34 : s34.len = 1 := g34.lenOf
  refine ⟨s34, rfl, ?_⟩
  rw [l17]
  refine brB_t ?_
  have e1 : ((s31.len : Int) == 1) = true := by rw [l31]; rfl
  rw [e1]
  refine brB_t ?_
  refine (g31.rd.no hc33).get rfl rfl fun a ha hcell => ⟨5, hcell, brB_t ?_⟩
  have e2 : ((s34.len : Int) == 1) = true := by rw [l34]; rfl
  rw [e2]
  refine brB_t ?_
  refine g34.rd.get rfl rfl fun a ha hcell => ⟨7, hcell, brB_t ?_⟩
  obtain ⟨B, hB, h33⟩ := h30.no hc33
  refine (clen_any h33).mono ?_
  rintro e w40 ⟨rfl, rfl⟩
  refine ⟨_, rfl, brB_t ?_⟩
  refine (has_any h33 7).mono ?_
  rintro e w43 ⟨rfl, hc43⟩
  refine ⟨_, rfl, ?_, tr (tr cw30 hc33) hc43⟩
  rw [decide_eq_true (by simp [trV])]
end Go.Proofs.Ytlpbdloloaoapaa

/- slices.Delete of one trace; cache.Get, Eldest. -/
set_option maxRecDepth 100000
namespace Go.Proofs.Ytlpbdloloaoapaa
open Go.RowKit

theorem Try.infoTr : (Try.prog.info? T_api_Trace).map (fun i => (i.zero, i.size, i.bytes)) = some (some (.agg #[.int .i64 0, .int .i64 0, .int .i64 0, .int .i64 0, .int .i64 0, .slice none 0 0, .slice none 0 0, .int .i64 0, .slice none 0 0]), 9, 120) := by kernel_rfl
theorem clear_one (w : World) (ty : TypeId) (a : Addr) (hsp : a.spot = none) (c : Nat) (hc : ∀ j, j < 9 → (w.cell? (a.add j)).isSome = true ∧ w.frozen? (a.add j) = false) :
    (Builtin.clear_ #[T_sl_api_Trace] ty #[.slice (some a) 1 c]).run Try.prog w = .ok (.tuple #[]) (w.setCells a.block a.off (fl trE [tr0])) := by
  obtain ⟨i, hi, hz, _, _⟩ := info_parts Try.infoTr
  have hv : (zeroValue T_api_Trace).run Try.prog w = .ok (.agg #[.int .i64 0, .int .i64 0, .int .i64 0, .int .i64 0, .int .i64 0, .slice none 0 0, .slice none 0 0, .int .i64 0, .slice none 0 0]) w := by
    simp [zeroValue, typeInfo, hi, hz]
  have ht : Try.prog.underlying T_sl_api_Trace = some (.slice T_api_Trace) := by kernel_rfl
  have hl : (fl trE [tr0]).length = 9 := rfl
  have hzc : (Builtin.zeroCells (Value.agg #[.int .i64 0, .int .i64 0, .int .i64 0, .int .i64 0, .int .i64 0, .slice none 0 0, .slice none 0 0, .int .i64 0, .slice none 0 0]).cells 1).toList = fl trE [tr0] := by kernel_rfl
  obtain ⟨b, o, sp⟩ := a
  cases hsp
  have hst := run_storeCells_cells (P := Try.prog) b o (fl trE [tr0]) 0 w (fun j hj => by have := (hc j (by omega)).1; rw [add_mk] at this; rw [Nat.add_zero]; exact this) (fun j hj => by have := (hc j (by omega)).2; rw [add_mk] at this; rw [Nat.add_zero]; exact this) (fl_oneCell trE [tr0])
  simp only [Nat.add_zero] at hst
  simp [Builtin.clear_, run_underlying ht, hv, hzc, hst]
theorem del_any {w : World} {s : Sl} {l : List Tr} (h : Ox trE w s l) {k : Nat} (hk : k < l.length) (hsm : l.length ≤ 1000000) : Calls Try.prog fn_slices_Delete_sl_api_Trace_api_Trace #[s.val, .int .i64 k, .int .i64 ((k : Int) + 1)] w fun e w' => ∃ s' : Sl, e = .returned s'.val ∧ Ox trE w' s' (l.eraseIdx k) ∧ s'.blk = s.blk ∧ Chg (fun j => s.blk = some j) w w' := by
  refine (slices_Delete_sl_api_Trace_api_Trace_lift (K := fun v w' => ∃ s' : Sl, v = s'.val ∧ Ox trE w' s' (l.eraseIdx k) ∧ s'.blk = s.blk ∧ Chg (fun j => s.blk = some j) w w') ?_).mono (by rintro e w' ⟨v, rfl, n, rfl, h⟩; exact ⟨n, rfl, h⟩)
  unfold slices_Delete_sl_api_Trace_api_Trace_sh
  have hlen := h.rd.len
  have hcap := h.rd.capL
  refine ⟨by omega, by omega, by omega, by omega, fun s4 _ => ?_⟩
  have he : ((k : Int) == (k : Int) + 1) = false := by simp; omega
  rw [he]
  refine brB_f ?_
  intro w5 hw5
  have q5 : Chg No w w5 := by rw [hw5]; exact Chg.drew _ _
  have h5 := h.no q5
  obtain ⟨x, hx⟩ : ∃ x, l[k]? = some x := ⟨_, List.getElem?_eq_getElem hk⟩
  obtain ⟨a, ha, _⟩ := h.rd.at hx
  refine ⟨by omega, by omega, by omega, by omega, ?_⟩
  have e1 : Int.toNat (k : Int) = k := Int.toNat_natCast k
  have e2 : Int.toNat ((k : Int) + 1) = k + 1 := by omega
  rw [e1, e2, sub0, hlen]
  have htk := h5.take (n := k) (by omega)
  have hdr := h5.rd.drop (m := k + 1) (by omega)
  have hdp : ∃ a', (Sl.sub s.ptr s.cap (k + 1) l.length trE.sz).ptr = some a' := by
    unfold Sl.sub
    split
    · exact ⟨a, ha⟩
    · rw [ha]; exact ⟨_, rfl⟩
  obtain ⟨a', ha'⟩ := hdp
  have l1 : (l.take k).length = k := by rw [List.length_take]; omega
  have l2 : (l.drop (k + 1)).length = l.length - (k + 1) := List.length_drop
  refine appx_ok trOk rfl rfl htk hdr ha' (fun hn => by rw [show (⟨s.ptr, k, s.cap⟩ : Sl).ptr = s.ptr from rfl, ha] at hn; cases hn) (by rw [l1, l2]; show (k + (l.length - (k + 1))) * 120 ≤ _; omega) (by rw [l1, l2]; unfold maxLen; omega) ?_
  intro s6 w7 h6 c7 _ hroom
  rw [← List.eraseIdx_eq_take_drop_succ] at h6
  have hbs : (⟨s.ptr, k, s.cap⟩ : Sl).blk = s.blk := by unfold Sl.blk Sl.val; cases s.ptr <;> rfl
  rw [hbs] at c7
  obtain ⟨hp6, hc6⟩ := hroom (by rw [l1, l2]; show _ ≤ s.cap; omega)
  have hp6 : s6.ptr = some a := hp6.trans ha
  have hc6 : s6.cap = s.cap := hc6
  have hle : (l.eraseIdx k).length = l.length - 1 := by rw [List.length_eraseIdx, if_pos hk]
  have hl6 := h6.rd.len
  have b6 : s6.blk = s.blk := by rw [blk_ptr hp6, blk_ptr ha]
  refine ⟨by omega, by omega, by omega, ?_⟩
  intro s8 hs8
  have hn6 : Int.toNat (s6.len : Int) = l.length - 1 := by omega
  have hnl : Int.toNat (l.length : Int) = l.length := Int.toNat_natCast _
  rw [hn6, hnl, hp6] at hs8
  have hs8' : s8 = ⟨some (a.add ((l.length - 1) * 9)), 1, s6.cap - (l.length - 1)⟩ := by
    rw [hs8]; unfold Sl.sub
    rw [if_neg (by omega)]
    have : l.length - (l.length - 1) = 1 := by omega
    rw [this]; rfl
  obtain ⟨hsp, hrm⟩ := h6.room a hp6
  have hsp8 : (a.add ((l.length - 1) * 9)).spot = none := by rw [add_at hsp]
  have hcl := clear_one w7 T_x (a.add ((l.length - 1) * 9)) hsp8 (s6.cap - (l.length - 1)) (fun j hj => by
    rw [add_add]
    refine hrm _ ?_
    show (l.length - 1) * 9 + j < s6.cap * 9
    omega)
  refine ⟨_, _, by rw [hs8']; exact hcl, s6, rfl, ?_, b6, ?_⟩
  · have hput := h6.put hp6 (n := l.length - 1) (by omega) (ys := [tr0]) (by show l.length - 1 + 1 ≤ _; omega)
    have hoff : (a.add ((l.length - 1) * 9)).block = a.block ∧ (a.add ((l.length - 1) * 9)).off = a.off + (l.length - 1) * trE.sz := by rw [add_at hsp]; exact ⟨rfl, rfl⟩
    rw [hoff.1, hoff.2]
    have ht : (l.eraseIdx k).take (l.length - 1) = l.eraseIdx k := List.take_of_length_le (by omega)
    rw [ht] at hput
    have h2 := hput.take (n := l.length - 1) (by rw [List.length_append]; omega)
    rw [List.take_left' (by omega)] at h2
    have hs6 : s6 = ⟨s6.ptr, l.length - 1, s6.cap⟩ := by
      have : s6.len = l.length - 1 := by omega
      rw [← this]
    rw [hs6]; exact h2
  · have c8 : Chg (fun j => s.blk = some j) w7 (w7.setCells (a.add ((l.length - 1) * 9)).block (a.add ((l.length - 1) * 9)).off (fl trE [tr0])) := (chg_setCells _ _ _).mono (fun j _ hj => by rw [hj, add_block]; exact blk_ptr ha)
    exact ((q5.trans c7 (U := fun j => s.blk = some j) (fun _ _ h => h.elim) (fun _ _ h => h))).trans c8 (fun _ _ h => h) (fun _ _ h => h)
/-- What Get answers. -/
theorem get_any {B : Nat → Prop} {w : World} {c : Nat} {most : Int} {vs : List TrV} (h : CAt B w c most vs) (hB : ∀ k, w.heap.size ≤ k → B k) (hl : vs.length ≤ 100000) (x : Int) (hx : x ∈ vs.map (·.start)) :
    Calls Try.prog fn_cache_Cache_Get #[.pointer (some ⟨c, 0, none⟩), .int .i64 x] w fun e w' => ∃ (k : Nat) (v : TrV) (t' : Tr) (m : Nat), vs[k]? = some v ∧ v.start = x ∧ e = .returned (.tuple #[.agg (trC t').toArray, .bool true]) ∧ TrX (fun j => m ≤ j ∧ j < w'.heap.size) w' t' v ∧ CAt (fun j => B j ∧ j < m) w' c most (vs.eraseIdx k ++ [v]) ∧ Chg B w w' ∧ w.heap.size ≤ m := by
  refine (cache_Cache_Get_lift (K := fun r w' => ∃ (k : Nat) (v : TrV) (t' : Tr) (m : Nat), vs[k]? = some v ∧ v.start = x ∧ r = .tuple #[.agg (trC t').toArray, .bool true] ∧ TrX (fun j => m ≤ j ∧ j < w'.heap.size) w' t' v ∧ CAt (fun j => B j ∧ j < m) w' c most (vs.eraseIdx k ++ [v]) ∧ Chg B w w' ∧ w.heap.size ≤ m) ?_).mono (by rintro e w' ⟨r, rfl, k, v, t', m, h1, h2, rfl, h3⟩; exact ⟨k, v, t', m, h1, h2, rfl, h3⟩)
  have tr : ∀ {x y z : World}, Chg No x y → Chg No y z → Chg No x z := fun h k => h.trans k (fun _ _ h => h) (fun _ _ h => h)
  unfold cache_Cache_Get_sh
  intro b3 w4 hb3 hw4
  have o4 : Ob w4 b3 (trC tr0) T_api_Trace := by rw [hw4, hb3]; exact Ob.new w (trC tr0) T_api_Trace
  have c4 : Chg No w w4 := by rw [hw4]; exact Chg.alloc _ _ _
  refine (place_any (h.no c4) x).mono ?_
  rintro e w6 ⟨n, rfl, hp, c6⟩
  obtain ⟨k, hnk, hkx⟩ : ∃ k : Nat, n = k ∧ (vs.map (·.start))[k]? = some x := by
    rcases hp with ⟨_, hno⟩ | ⟨k, hk1, hk2, _⟩
    · exact absurd hx hno
    · exact ⟨k, hk1, hk2⟩
  subst hnk
  obtain ⟨v, hv, hvx⟩ : ∃ v, vs[k]? = some v ∧ v.start = x := by
    rw [List.getElem?_map] at hkx
    cases hq : vs[k]? with
    | none => rw [hq] at hkx; cases hkx
    | some v => rw [hq] at hkx; exact ⟨v, rfl, Option.some.inj hkx⟩
  refine ⟨(k : Int), rfl, ?_⟩
  rw [decide_eq_false (by omega)]
  refine brB_f ?_
  have cw6 := tr c4 c6
  have hn6 : CAt (fun j => B j ∧ j < w.heap.size) w6 c most vs := h.nar.no cw6
  obtain ⟨s, l, h1, h2, h3, h4, h5, h6⟩ := hn6
  have hlen := h2.rd.len
  have hklt : k < vs.length := (List.getElem?_eq_some_iff.1 hv).1
  obtain ⟨t, ht⟩ : ∃ t, l[k]? = some t := ⟨_, List.getElem?_eq_getElem (by omega)⟩
  obtain ⟨htv, hsm⟩ := h6 k t v ht hv
  have s6 := cw6.size
  have o6 := o4.no c6
  have lb3 := o6.lt
  refine ⟨s, h1.cell rfl, h2.rd.ix (by omega) (by rw [Int.toNat_natCast]; exact ht) fun a ha hcell => ?_⟩
  have e0 : ∀ q : Addr, q.add 0 = q := fun q => by unfold Addr.add; simp
  have cc0 := hcell 0 _ rfl
  rw [e0] at cc0
  refine ⟨_, _, _, _, _, t.ins, t.outs, _, t.cells, cc0, hcell 1 _ rfl, hcell 2 _ rfl, hcell 3 _ rfl, hcell 4 _ rfl, hcell 5 _ rfl, hcell 6 _ rfl, hcell 7 _ rfl, hcell 8 _ rfl, ?_⟩
  intro b29 w30 hb29 hw30
  have o30 : Ob w30 b29 (trC tr0) T_api_Trace := by rw [hw30, hb29]; exact Ob.new w6 (trC tr0) T_api_Trace
  have c30 : Chg No w6 w30 := by rw [hw30]; exact Chg.alloc _ _ _
  refine ⟨o30.wr (by simp [trC]), ?_⟩
  intro w31 hw31
  have o31 : Ob w31 b29 (trC t) T_api_Trace := by
    have := Ob.st (vs := trC t) (k := 0) (i := 0) o30
    rw [trC_whole] at this
    rw [hw31]; exact this
  have c31 : Chg No w6 w31 := by
    rw [hw31]
    exact c30.trans (Chg.st (S := fun k => k = b29) rfl) (fun _ _ h => h) (fun j hj he => by omega)
  refine ⟨fun w60 => CAt (fun j => B j ∧ j ≠ b3 ∧ j ≠ b29) w60 c most (vs.eraseIdx k ++ [v]) ∧ Ob w60 b29 (trC t) T_api_Trace ∧ Ob w60 b3 (trC tr0) T_api_Trace ∧ TrIs (fun j => (B j ∧ j < w.heap.size) ∧ j < w6.heap.size ∧ j ≠ c ∧ s.blk ≠ some j) w60 t v ∧ Chg B w w60, ?_, ?_⟩
  · rintro w60 ⟨hca, ho, hz, hti, hch⟩
    refine ⟨t.start, t.slots, t.backs, t.grow, t.growBack, t.ins, t.outs, t.last, t.cells, ho.cell rfl, ho.cell rfl, ho.cell rfl, ho.cell rfl, ho.cell rfl, ho.cell rfl, ho.cell rfl, ho.cell rfl, ho.cell rfl, ?_⟩
    refine (own_x t v w60 _ hti hsm).mono ?_
    rintro e w71 ⟨t', rfl, ht', c71⟩
    have hz71 := hz.no c71
    refine ⟨t'.start, t'.slots, t'.backs, t'.grow, t'.growBack, t'.ins, t'.outs, t'.last, t'.cells, rfl, hz71.wr (by simp [trC]), ?_⟩
    intro w81 hw81
    have o81 : Ob w81 b3 (trC t') T_api_Trace := by
      have := Ob.st (vs := trC t') (k := 0) (i := 0) hz71
      rw [trC_whole] at this
      rw [hw81]; exact this
    have c81 : Chg (fun k => k = b3) w71 w81 := by rw [hw81]; exact Chg.st (S := fun k => k = b3) rfl
    have s71 := c71.size
    have s81 := c81.size
    have lz := hz.lt
    refine ⟨t'.start, t'.slots, t'.backs, t'.grow, t'.growBack, t'.ins, t'.outs, t'.last, t'.cells, o81.cell rfl, o81.cell rfl, o81.cell rfl, o81.cell rfl, o81.cell rfl, o81.cell rfl, o81.cell rfl, o81.cell rfl, o81.cell rfl, k, v, t', w60.heap.size, hv, hvx, rfl, ?_, ?_, ?_, hch.size⟩
    · exact (ht'.chg c81 (fun j hj he => by omega)).wid (fun j hj => ⟨hj.1, by omega⟩)
    · exact ((hca.nar.no c71).chg c81 (fun j hj he => hj.1.2.1 he)).wid (fun j hj => ⟨hj.1.1, hj.2⟩)
    · exact (hch.trans c71 (U := B) (fun _ _ h => h) (fun _ _ h => h.elim)).trans c81 (fun _ _ h => h) (fun j hj he => by omega)
  · intro w32 hw32
    have c32 : Chg No w6 w32 := c31.trans (by rw [hw32]; exact Chg.drew No _) (fun _ _ h => h) (fun _ _ h => h)
    have s32 := c32.size
    have p1 := h1.no c32
    have p29 : Ob w32 b29 (trC t) T_api_Trace := o31.no (by rw [hw32]; exact Chg.drew No _)
    have p2 := h2.no c32
    have p3 := o6.no c32
    have lb29 := p29.lt
    have lc := h1.lt
    have nbs : ∀ j, s.blk = some j → j < w.heap.size ∧ j ≠ c := fun j hj => ⟨(h4 j hj).1.2, (h4 j hj).2⟩
    have hcw := h3.2
    have fin : ∀ (y : World) (s46 : Sl) (b : Nat), Chg (fun j => s.blk = some j) w32 y → Ox trE y s46 (l.eraseIdx k) → s46.blk = s.blk → Ow trE y ⟨some ⟨b, 0, none⟩, 1, 1⟩ [t] →
        ∃ s49 : Sl, ∃ w50 : World, (Builtin.append_ #[T_sl_api_Trace, T_sl_api_Trace] T_sl_api_Trace #[s46.val, .slice (some ⟨b, 0, none⟩) 1 1]).run Try.prog y = .ok s49.val w50 ∧
          (Ob w50 c [.int .i64 most, s.val] T_cache_Cache ∧ Ob w50 b29 (trC t) T_api_Trace) ∧ wrOk w50 ⟨c, 1, none⟩ 1 ∧ ∀ w51 : World, w51 = stW w50 ⟨c, 1, none⟩ 0 [s49.val] →
          (CAt (fun j => B j ∧ j ≠ b3 ∧ j ≠ b29) w51 c most (vs.eraseIdx k ++ [v]) ∧ Ob w51 b29 (trC t) T_api_Trace ∧ Ob w51 b3 (trC tr0) T_api_Trace ∧ TrIs (fun j => (B j ∧ j < w.heap.size) ∧ j < w6.heap.size ∧ j ≠ c ∧ s.blk ≠ some j) w51 t v ∧ Chg B w w51) := by
      intro y s46 b cy hx46 hb46 hlit
      have sy := cy.size
      have hle : (l.eraseIdx k).length = l.length - 1 := by rw [List.length_eraseIdx, if_pos (by omega)]
      refine appx_ok trOk rfl rfl hx46 hlit.rd (at' := ⟨b, 0, none⟩) rfl (fun _ => by simp) (by rw [hle]; show (l.length - 1 + 1) * 120 ≤ _; omega) (by rw [hle]; show l.length - 1 + 1 ≤ _; unfold maxLen; omega) ?_
      intro s49 w50 h49 c50 hbk _
      rw [hb46] at c50 hbk
      have s50 := c50.size
      have cy50 : Chg (fun j => s.blk = some j) w32 w50 := cy.trans c50 (fun _ _ h => h) (fun _ _ h => h)
      have q1 := p1.chg cy50 (fun hj => (nbs c hj).2 rfl)
      have q29 := p29.chg cy50 (fun hj => by have := (nbs b29 hj).1; omega)
      have q3 := p3.chg cy50 (fun hj => by have := (nbs b3 hj).1; have := c4.size; omega)
      refine ⟨⟨q1, q29⟩, q1.wr (by simp), ?_⟩
      intro w51 hw51
      have r1 : Ob w51 c [.int .i64 most, s49.val] T_cache_Cache := by
        have := Ob.st (vs := [s49.val]) (k := 1) (i := 0) q1
        rw [hw51]; exact this
      have c51 : Chg (fun j => j = c) w50 w51 := by rw [hw51]; exact Chg.st (S := fun j => j = c) rfl
      have s51 := c51.size
      have hs49 : ∀ j, s49.blk = some j → (B j ∧ j ≠ b3 ∧ j ≠ b29) ∧ j ≠ c := by
        intro j hj
        rcases hbk with hh | hh
        · rw [hh] at hj
          have := (h4 j hj).1
          exact ⟨⟨this.1, by omega, by omega⟩, (h4 j hj).2⟩
        · have := hh j hj
          exact ⟨⟨hB j (by omega), by omega, by omega⟩, by omega⟩
      have keep : ∀ (x2 : Tr) (y2 : TrV), TrIs (fun j => (B j ∧ j < w.heap.size) ∧ j < w6.heap.size ∧ j ≠ c ∧ s.blk ≠ some j) w6 x2 y2 → TrIs (fun j => (B j ∧ j < w.heap.size) ∧ j < w6.heap.size ∧ j ≠ c ∧ s.blk ≠ some j) w51 x2 y2 := fun x2 y2 hh =>
        ((hh.no c32).chg cy50 (fun j hj he => hj.2.2.2 he)).chg c51 (fun j hj he => hj.2.2.1 he)
      have fit : ∀ j, ((B j ∧ j < w.heap.size) ∧ j < w6.heap.size ∧ j ≠ c ∧ s.blk ≠ some j) → (B j ∧ j ≠ b3 ∧ j ≠ b29) ∧ j < w51.heap.size ∧ j ≠ c ∧ s49.blk ≠ some j := by
        intro j hj
        refine ⟨⟨hj.1.1, by omega, by omega⟩, by omega, hj.2.2.1, fun he => ?_⟩
        rcases hbk with hh | hh
        · rw [hh] at he; exact hj.2.2.2 he
        · have := hh j he; omega
      refine ⟨⟨s49, l.eraseIdx k ++ [t], r1, h49.chg c51 (fun j hj he => (hs49 j hj).2 he), ⟨h3.1, by omega, by omega⟩, hs49, ?_, fun i x2 y2 hi hy => ?_⟩, q29.chg c51 (fun he => by omega), q3.chg c51 (fun he => by omega), keep t v htv, ?_⟩
      · rw [List.length_append, List.length_append, List.length_eraseIdx, List.length_eraseIdx, h5]; rfl
      · have hle2 : (vs.eraseIdx k).length = l.length - 1 := by rw [List.length_eraseIdx, if_pos hklt, h5]
        by_cases hil : i < l.length - 1
        · rw [List.getElem?_append_left (by omega)] at hi hy
          rw [List.getElem?_eraseIdx] at hi hy
          split at hi
          · rename_i hik
            rw [if_pos hik] at hy
            obtain ⟨u1, u2⟩ := h6 i x2 y2 hi hy
            exact ⟨(keep _ _ u1).wid fit, u2⟩
          · rename_i hik
            rw [if_neg hik] at hy
            obtain ⟨u1, u2⟩ := h6 (i + 1) x2 y2 hi hy
            exact ⟨(keep _ _ u1).wid fit, u2⟩
        · have hi2 : i = l.length - 1 := by
            have := (List.getElem?_eq_some_iff.1 hi).1
            rw [List.length_append, hle] at this; simp at this; omega
          subst hi2
          rw [List.getElem?_append_right (by omega), hle, Nat.sub_self] at hi
          rw [List.getElem?_append_right (by omega), hle2, Nat.sub_self] at hy
          cases hi; cases hy
          exact ⟨(keep _ _ htv).wid fit, hsm⟩
      · have d1 : Chg No w w32 := tr cw6 c32
        have d2 : Chg B w w50 := d1.trans cy50 (fun _ _ h => h.elim) (fun j _ hj => (h4 j hj).1.1)
        exact d2.trans c51 (fun _ _ h => h) (fun j _ hj => by rw [hj]; exact h3.1)
    have hwr : wr ((k : Int) + 1) = (k : Int) + 1 := wr_of (by omega) (by omega)
    rw [hwr]
    have S32 : Ob w32 c [.int .i64 most, s.val] T_cache_Cache ∧ Ob w32 b29 (trC t) T_api_Trace := ⟨p1, p29⟩
    refine ⟨fun w' => Ob w' c [.int .i64 most, s.val] T_cache_Cache ∧ Ob w' b29 (trC t) T_api_Trace, S32, s, fun w' hw' => hw'.1.cell rfl, t.start, t.slots, t.backs, t.grow, t.growBack, t.ins, t.outs, t.last, t.cells, fun w' hw' => hw'.2.cell rfl, fun w' hw' => hw'.2.cell rfl, fun w' hw' => hw'.2.cell rfl, fun w' hw' => hw'.2.cell rfl, fun w' hw' => hw'.2.cell rfl, fun w' hw' => hw'.2.cell rfl, fun w' hw' => hw'.2.cell rfl, fun w' hw' => hw'.2.cell rfl, fun w' hw' => hw'.2.cell rfl, ?_, ?_⟩
    · refine (del_any p2 (k := k) (by omega) (by omega)).mono ?_
      rintro e w45 ⟨s46, rfl, h46, b46, c45⟩
      have t1 := p1.chg c45 (fun hj => (nbs c hj).2 rfl)
      have t29 := p29.chg c45 (fun hj => by have := (nbs b29 hj).1; omega)
      refine ⟨s46, rfl, ⟨t1, t29⟩, ?_⟩
      intro b47 w48 hb47 hw48
      have c48 : Chg No w45 w48 := by rw [hw48]; exact Chg.alloc _ _ _
      have hlit : Ow trE w48 ⟨some ⟨b47, 0, none⟩, 1, 1⟩ [t] := by
        rw [hw48, hb47]
        exact Ow.lit w45 [t] (trC t) (by rw [fl_one]; rfl) (by show 1 ≤ maxLen; unfold maxLen; omega)
      exact ⟨⟨t1.no c48, t29.no c48⟩, fin w48 s46 b47 (c45.trans c48 (fun _ _ h => h) (fun _ _ h => h.elim)) (h46.no c48) b46 hlit⟩
    · intro b52 w53 hb52 hw53
      have c53 : Chg No w32 w53 := by rw [hw53]; exact Chg.alloc _ _ _
      have hlit : Ow trE w53 ⟨some ⟨b52, 0, none⟩, 1, 1⟩ [t] := by
        rw [hw53, hb52]
        exact Ow.lit w32 [t] (trC t) (by rw [fl_one]; rfl) (by show 1 ≤ maxLen; unfold maxLen; omega)
      refine ⟨⟨p1.no c53, p29.no c53⟩, ?_⟩
      refine (del_any (p2.no c53) (k := k) (by omega) (by omega)).mono ?_
      rintro e w55 ⟨s56, rfl, h56, b56, c55⟩
      have t1 := (p1.no c53).chg c55 (fun hj => (nbs c hj).2 rfl)
      have t29 := (p29.no c53).chg c55 (fun hj => by have := (nbs b29 hj).1; omega)
      refine ⟨s56, rfl, ⟨t1, t29⟩, ?_⟩
      have hb52s : ∀ j, (⟨some ⟨b52, 0, none⟩, 1, 1⟩ : Sl).blk = some j → j = b52 := fun j hj => (Option.some.inj hj).symm
      exact fin w55 s56 b52 (c53.trans c55 (fun _ _ h => h.elim) (fun _ _ h => h)) h56 b56 (hlit.chg c55 (fun j hj he => by have := hb52s j hj; have := (nbs j he).1; omega))
theorem eldest_any {B : Nat → Prop} {w : World} {c : Nat} {most : Int} {vs : List TrV} (h : CAt B w c most vs) {v : TrV} (hv : vs[0]? = some v) : Calls Try.prog fn_cache_Cache_Eldest #[.pointer (some ⟨c, 0, none⟩)] w fun e w' => e = .returned (.tuple #[.int .i64 v.start, .bool true]) ∧ w = w' := by
  refine (cache_Cache_Eldest_lift (K := fun r w' => r = .tuple #[.int .i64 v.start, .bool true] ∧ w = w') ?_).mono (by rintro e w' ⟨v, rfl, rfl, h⟩; exact ⟨rfl, h⟩)
  unfold cache_Cache_Eldest_sh
  refine (clen_any h).mono ?_
  rintro e w3 ⟨rfl, rfl⟩
  have hlt : 0 < vs.length := (List.getElem?_eq_some_iff.1 hv).1
  refine ⟨_, rfl, ?_⟩
  have he : ((vs.length : Int) == 0) = false := by simp; intro e; rw [e] at hlt; exact absurd hlt (by decide)
  rw [he]
  refine brB_f ?_
  obtain ⟨s, l, h1, h2, h3, h4, h5, h6⟩ := h
  obtain ⟨t, ht⟩ : ∃ t, l[0]? = some t := ⟨_, List.getElem?_eq_getElem (by omega)⟩
  have hst := (h6 0 t v ht hv).1.nums.1
  refine ⟨s, h1.cell rfl, h2.rd.get (x := t) ht rfl fun a ha hcell => ⟨_, hcell, ?_, rfl⟩⟩
  rw [hst]
end Go.Proofs.Ytlpbdloloaoapaa

/- The cache: Put of a trace that may be there, Drop, what is not there; a cache that is nil. (put_x and trace_x are turned from put_new and trace_any.) -/
set_option maxRecDepth 100000
namespace Go.Proofs.Ytlpbdloloaoapaa
open Go.RowKit

theorem del_step {B : Nat → Prop} {w w8 : World} {c : Nat} {most : Int} {vs : List TrV} {s : Sl} {l : List Tr} (h1 : Ob w c [.int .i64 most, s.val] T_cache_Cache) (h3 : B c) (h4 : ∀ k, s.blk = some k → B k ∧ k ≠ c) (h5 : l.length = vs.length)
    (h6 : ∀ (i : Nat) (t : Tr) (v : TrV), l[i]? = some t → vs[i]? = some v → TrIs (fun k => B k ∧ k < w.heap.size ∧ k ≠ c ∧ s.blk ≠ some k) w t v ∧ SmV v) {k : Nat} {s' : Sl} (hx : Ox trE w8 s' (l.eraseIdx k)) (hb : s'.blk = s.blk) (c8 : Chg (fun j => s.blk = some j) w w8) :
    wrOk w8 ⟨c, 1, none⟩ 1 ∧ ∀ w10 : World, w10 = stW w8 ⟨c, 1, none⟩ 0 [s'.val] → CAt B w10 c most (vs.eraseIdx k) ∧ Chg B w w10 := by
  have q1 := h1.chg c8 (fun hj => (h4 c hj).2 rfl)
  refine ⟨q1.wr (by simp), fun w10 hw => ?_⟩
  have r1 : Ob w10 c [.int .i64 most, s'.val] T_cache_Cache := by
    have := Ob.st (vs := [s'.val]) (k := 1) (i := 0) q1
    rw [hw]; exact this
  have c10 : Chg (fun j => j = c) w8 w10 := by rw [hw]; exact Chg.st (S := fun j => j = c) rfl
  have z8 := c8.size
  have z10 := c10.size
  have keep : ∀ (x : Tr) (y : TrV), TrIs (fun k => B k ∧ k < w.heap.size ∧ k ≠ c ∧ s.blk ≠ some k) w x y → TrIs (fun k => B k ∧ k < w10.heap.size ∧ k ≠ c ∧ s'.blk ≠ some k) w10 x y := fun x y hh =>
    ((hh.chg c8 (fun j hj he => hj.2.2.2 he)).chg c10 (fun j hj he => hj.2.2.1 he)).wid (fun j hj => ⟨hj.1, by have := hj.2.1; omega, hj.2.2.1, by rw [hb]; exact hj.2.2.2⟩)
  refine ⟨⟨s', l.eraseIdx k, r1, hx.chg c10 (fun j hj he => (h4 j (hb ▸ hj)).2 he), h3, fun j hj => h4 j (hb ▸ hj), by rw [List.length_eraseIdx, List.length_eraseIdx, h5], fun i x y hi hy => ?_⟩, (c8.trans c10 (U := B) (fun j _ hj => (h4 j hj).1) (fun j _ hj => by rw [hj]; exact h3))⟩
  rw [List.getElem?_eraseIdx] at hi hy
  split at hi
  · next hik =>
    rw [if_pos hik] at hy
    obtain ⟨u1, u2⟩ := h6 i x y hi hy
    exact ⟨keep _ _ u1, u2⟩
  · next hik =>
    rw [if_neg hik] at hy
    obtain ⟨u1, u2⟩ := h6 (i + 1) x y hi hy
    exact ⟨keep _ _ u1, u2⟩
theorem put_x {B D : Nat → Prop} {w : World} {c : Nat} {most : Int} {vs vs' : List TrV} (h : CAt B w c most vs) (hm : 0 ≤ most) (t : Tr) (v : TrV) (ht : TrIs D w t v) (hv : SmV v) (hB : ∀ k, w.heap.size ≤ k → B k) (hD : ∀ k, D k → ¬ B k) (hl : vs.length ≤ 100000) (hp' : ∀ n, PlaceS v.start (vs.map (·.start)) n → vs' = if 0 ≤ n then vs.eraseIdx n.toNat else vs) :
    Calls Try.prog fn_cache_Cache_Put #[.pointer (some ⟨c, 0, none⟩), .agg (trC t).toArray] w fun e w' => ∃ g : Sl, e = .returned g.val ∧ Ow intE w' g (((vs' ++ [v]).take ((vs' ++ [v]).length - most.toNat)).map (·.start)) ∧
      CAt (fun k => B k ∧ g.blk ≠ some k) w' c most ((vs' ++ [v]).drop ((vs' ++ [v]).length - most.toNat)) ∧ Chg B w w' ∧ (∀ k, g.blk = some k → w.heap.size ≤ k) := by
  refine (cache_Cache_Put_lift (K := fun r w' => ∃ g : Sl, r = g.val ∧ Ow intE w' g (((vs' ++ [v]).take ((vs' ++ [v]).length - most.toNat)).map (·.start)) ∧
      CAt (fun k => B k ∧ g.blk ≠ some k) w' c most ((vs' ++ [v]).drop ((vs' ++ [v]).length - most.toNat)) ∧ Chg B w w' ∧ (∀ k, g.blk = some k → w.heap.size ≤ k)) ?_).mono (by rintro e w' ⟨r, rfl, g, rfl, h⟩; exact ⟨g, rfl, h⟩)
  obtain ⟨L, hL⟩ : ∃ L, L = vs' ++ [v] := ⟨_, rfl⟩
  rw [← hL]
  have hLl : L.length = vs'.length + 1 := by rw [hL]; simp
  unfold cache_Cache_Put_sh
  intro b11 w12 hb11 hw12
  have ho12 : Ob w12 b11 (trC t) T_api_Trace := by rw [hw12, hb11]; exact Ob.new w (trC t) T_api_Trace
  have c12 : Chg No w w12 := by rw [hw12]; exact Chg.alloc _ _ _
  refine ⟨_, ho12.cell rfl, ?_⟩
  rw [ht.nums.1]
  refine (place_any (h.no c12) v.start).mono ?_
  rintro e w15 ⟨n, rfl, hp, c15⟩
  have ev := hp' n hp
  refine ⟨_, rfl, ?_⟩
  have cw15 : Chg No w w15 := c12.trans c15 (fun _ _ h => h) (fun _ _ h => h)
  have ho15 := ho12.no c15
  have h15 : CAt (fun k => B k ∧ k < w.heap.size) w15 c most vs := h.nar.no cw15
  have t15 := ht.no cw15
  have lb11 := ho12.lt
  have hb11' : w.heap.size ≤ b11 := by omega
  have hl' : vs'.length ≤ 100000 := by
    rw [ev]
    split
    · rw [List.length_eraseIdx]; split <;> omega
    · exact hl
  refine ⟨fun w22 => CAt (fun k => B k ∧ k < w.heap.size) w22 c most vs' ∧ Ob w22 b11 (trC t) T_api_Trace ∧ TrIs D w22 t v ∧ Chg B w w22, ?_, ?_⟩
  rotate_left
  · refine brB_of (fun hge => ?_) (fun hlt => ?_)
    · have hge := of_decide_eq_true hge
      rw [if_pos hge] at ev
      obtain ⟨k, rfl, hk⟩ : ∃ k : Nat, n = k ∧ k < vs.length := by
        rcases hp with ⟨rfl, _⟩ | ⟨k, rfl, hk, _⟩
        · omega
        · exact ⟨k, rfl, by have := (List.getElem?_eq_some_iff.1 hk).1; simpa using this⟩
      obtain ⟨s, l, h1, h2, h3, h4, h5, h6⟩ := h15
      refine ⟨s, h1.cell rfl, ?_⟩
      rw [wr_of (by omega) (by omega)]
      refine (del_any h2 (k := k) (by omega) (by omega)).mono ?_
      rintro e w19 ⟨s20, rfl, h20, b20, c19⟩
      obtain ⟨g1, g2⟩ := del_step h1 h3 h4 h5 h6 h20 b20 c19
      refine ⟨s20, rfl, g1, fun w21 hw21 => ?_⟩
      obtain ⟨a1, a2⟩ := g2 w21 hw21
      exact ⟨by rw [ev, Int.toNat_natCast]; exact a1, ho15.chg a2 (fun he => by omega), t15.chg a2 (fun k hk he => hD k hk he.1), cw15.trans a2 (fun _ _ h => h.elim) (fun k _ he => he.1)⟩
    · have hlt := of_decide_eq_false hlt
      rw [if_neg hlt] at ev
      exact ⟨by rw [ev]; exact h15, ho15, t15, cw15.mono (fun _ _ h => h.elim)⟩
  rintro w22 ⟨h22, ho22, t22, cw22⟩
  intro w23 hw23
  have c23 : Chg No w22 w23 := by rw [hw23]; exact Chg.drew _ _
  have cw23 : Chg B w w23 := cw22.trans c23 (fun _ _ h => h) (fun _ _ h => h.elim)
  obtain ⟨s, l, h1, h2, h3, h4, h5, h6⟩ := h22.no c23
  have ho23 := ho22.no c23
  have s23 := cw23.size
  have hb11lt := ho23.lt
  have nb : ∀ k, s.blk = some k → k ≠ b11 := fun k hk => by have := (h4 k hk).1.2; omega
  have nc : c ≠ b11 := by have := h3.2; omega
  refine ⟨fun w' => Ob w' c [.int .i64 most, s.val] T_cache_Cache ∧ Ob w' b11 (trC t) T_api_Trace, ⟨h1, ho23⟩, s, fun w' hw' => hw'.1.cell rfl, t.start, t.slots, t.backs, t.grow, t.growBack, t.ins, t.outs, t.last, t.cells, fun w' hw' => hw'.2.cell rfl, fun w' hw' => hw'.2.cell rfl, fun w' hw' => hw'.2.cell rfl, fun w' hw' => hw'.2.cell rfl, fun w' hw' => hw'.2.cell rfl, fun w' hw' => hw'.2.cell rfl, fun w' hw' => hw'.2.cell rfl, fun w' hw' => hw'.2.cell rfl, fun w' hw' => hw'.2.cell rfl, ?_⟩
  refine (own_any t v w23 D (t22.no c23) hv).mono ?_
  rintro e w36 ⟨t', rfl, ht', c36⟩
  refine ⟨t'.start, t'.slots, t'.backs, t'.grow, t'.growBack, t'.ins, t'.outs, t'.last, t'.cells, rfl, ⟨h1.no c36, ho23.no c36⟩, ?_⟩
  intro b46 w47 hb46 hw47
  have c47 : Chg No w36 w47 := by rw [hw47]; exact Chg.alloc _ _ _
  have s36 := c36.size
  have s47 := c47.size
  have hlit : Ow trE w47 ⟨some ⟨b46, 0, none⟩, 1, 1⟩ [t'] := by
    rw [hw47, hb46]
    exact Ow.lit w36 [t'] (trC t') (by rw [fl_one]; rfl) (by show 1 ≤ maxLen; unfold maxLen; omega)
  have g1 := (h1.no c36).no c47
  have g11 := (ho23.no c36).no c47
  have g2 := (h2.no c36).no c47
  refine ⟨⟨g1, g11⟩, ?_⟩
  have hll : l.length ≤ 100000 := by omega
  refine appx_ok trOk rfl rfl g2 hlit.rd (at' := ⟨b46, 0, none⟩) rfl (fun _ => by simp) (by show (l.length + 1) * 120 ≤ _; omega) (by show l.length + 1 ≤ _; unfold maxLen; omega) ?_
  intro s' w49 h49 c49 hbk _
  have f1 := g1.chg c49 (fun hk => (h4 c hk).2 rfl)
  have f11 := g11.chg c49 (fun hk => nb b11 hk rfl)
  refine ⟨⟨f1, f11⟩, f1.wr (by simp), ?_⟩
  intro w50 hw50
  have k1 : Ob w50 c [.int .i64 most, s'.val] T_cache_Cache := by
    have := Ob.st (vs := [s'.val]) (k := 1) (i := 0) f1
    rw [hw50]; exact this
  have c50 : Chg (fun k => k = c) w49 w50 := by rw [hw50]; exact Chg.st (S := fun k => k = c) rfl
  have s49 := c49.size
  have s50 := c50.size
  have hs' : ∀ k, s'.blk = some k → (B k ∧ k ≠ c) := by
    intro k hk
    rcases hbk with hh | hh
    · rw [hh] at hk; exact ⟨(h4 k hk).1.1, (h4 k hk).2⟩
    · have := hh k hk
      exact ⟨hB k (by omega), by have := h3.2; omega⟩
  have cw47 : Chg B w w47 := (cw23.trans c36 (fun _ _ h => h) (fun _ _ h => h.elim)).trans c47 (fun _ _ h => h) (fun _ _ h => h.elim)
  have cw50 : Chg B w w50 := (cw47.trans c49 (U := B) (fun _ _ h => h) (fun k _ hk => (h4 k hk).1.1)).trans c50 (fun _ _ h => h) (fun k _ hk => by rw [hk]; exact h3.1)
  have k2 : Ox trE w50 s' (l ++ [t']) := h49.chg c50 (fun k hk he => (hs' k hk).2 he)
  have hca : CAt B w50 c most L := by
    refine ⟨s', l ++ [t'], k1, k2, h3.1, hs', by rw [hL]; simp [h5], fun i x y hi hy => ?_⟩
    rw [hL] at hy
    by_cases hil : i < l.length
    · rw [List.getElem?_append_left hil] at hi
      rw [List.getElem?_append_left (by omega)] at hy
      obtain ⟨a, b⟩ := h6 i x y hi hy
      refine ⟨(((((a.no c36).no c47).chg c49 (fun k hk he => hk.2.2.2 he)).chg c50 (fun k hk he => hk.2.2.1 he)).wid (fun k hk => ?_)), b⟩
      refine ⟨hk.1.1, by have := hk.2.1; omega, hk.2.2.1, fun he => ?_⟩
      rcases hbk with hh | hh
      · rw [hh] at he; exact hk.2.2.2 he
      · have := hh k he; have := hk.2.1; omega
    · have hi2 : i = l.length := by
        have := (List.getElem?_eq_some_iff.1 hi).1; simp at this; omega
      subst hi2
      rw [List.getElem?_append_right (Nat.le_refl _), Nat.sub_self] at hi
      rw [h5, List.getElem?_append_right (Nat.le_refl _), Nat.sub_self] at hy
      cases hi; cases hy
      refine ⟨(((ht'.no c47).chg c49 (fun k hk he => by have := (h4 k he).1.2; omega)).chg c50 (fun k hk he => by have := h3.2; omega)).wid (fun k hk => ?_), hv⟩
      refine ⟨hB k (by omega), by omega, by have := h3.2; omega, fun he => ?_⟩
      rcases hbk with hh | hh
      · rw [hh] at he; have := (h4 k he).1.2; omega
      · have := hh k he; omega
  refine ⟨fun g w' => ∃ j : Nat, j ≤ L.length - most.toNat ∧ Ow intE w' g ((L.take j).map (·.start)) ∧ CAt (fun k => B k ∧ g.blk ≠ some k) w' c most (L.drop j) ∧ Chg B w w' ∧ (∀ k, g.blk = some k → w.heap.size ≤ k), fun g _ => L.length - g.len, ⟨0, Nat.zero_le _, Ow.nil _ _, hca.wid (fun k hk => ⟨hk, fun e => by cases e⟩), cw50, fun k hk => by cases hk⟩, ?_⟩
  rintro g w51 ⟨j, hj, hg, hc51, cw51, hgb⟩
  intro w52 hw52
  have q52 : Chg No w51 w52 := by rw [hw52]; exact Chg.drew _ _
  have hg52 := hg.no q52
  have hc52 := hc51.no q52
  have cw52 : Chg B w w52 := cw51.trans q52 (fun _ _ h => h) (fun _ _ h => h.elim)
  have hc52' := hc52
  obtain ⟨s, l, h1, h2, h3, h4, h5, h6⟩ := hc52
  have hlen := h2.rd.len
  have hld : (L.drop j).length = L.length - j := by simp
  have hgl : g.len = j := by rw [hg.lenOf, List.length_map, List.length_take]; omega
  refine ⟨s, held_Lw (h1.cell rfl), most, held_Lw (h1.cell rfl), brB_of (fun hlt => ?_) (fun hlt => ?_)⟩
  · have hlt : most < (s.len : Int) := of_decide_eq_true hlt
    have hjlt : j < L.length - most.toNat := by omega
    obtain ⟨x, hx0⟩ : ∃ x, l[0]? = some x := ⟨_, List.getElem?_eq_getElem (by omega)⟩
    obtain ⟨y, hy0⟩ : ∃ y, (L.drop j)[0]? = some y := ⟨_, List.getElem?_eq_getElem (by omega)⟩
    have hxy : x.start = y.start := (h6 0 x y hx0 hy0).1.nums.1
    refine ⟨s, h1.cell rfl, h2.rd.ix (Int.le_refl 0) hx0 fun a ha hcell => ?_⟩
    have e0 : ∀ q : Addr, q.add 0 = q := fun q => by unfold Addr.add; simp
    have c0 := hcell 0 _ rfl
    rw [e0] at c0
    refine ⟨_, c0, ?_⟩
    intro b59 w60 hb59 hw60
    have c60 : Chg No w52 w60 := by rw [hw60]; exact Chg.alloc _ _ _
    have hlit : Ow intE w60 ⟨some ⟨b59, 0, none⟩, 1, 1⟩ [x.start] := by
      rw [hw60, hb59]
      exact Ow.lit w52 [x.start] [.int .i64 x.start] (by rw [fl_one]; rfl) (by show 1 ≤ maxLen; unfold maxLen; omega)
    have hgl2 : ((L.take j).map (·.start)).length = j := by rw [List.length_map, List.length_take]; omega
    refine app_ok intOk rfl rfl (hg52.no c60) hlit.rd (by rw [hgl2]; show (j + 1) * 8 ≤ _; omega) (by rw [hgl2]; show j + 1 ≤ _; unfold maxLen; omega) ?_
    intro g' w62 hg' c62 hgbk
    have s52 := cw52.size
    have s60 := c60.size
    have s62 := c62.size
    have hg'b : ∀ k, g'.blk = some k → w.heap.size ≤ k := by
      intro k hk
      rcases hgbk with hh | hh
      · rw [hh] at hk; exact hgb k hk
      · rw [hh] at hk; cases hk; omega
    have o62 := (h1.no c60).chg c62 (fun hk => h3.2 hk)
    have x62 := (h2.no c60).chg c62 (fun k hk he => (h4 k hk).1.2 he)
    refine ⟨s, o62.cell rfl, by omega, by omega, ?_⟩
    intro s64 hs64
    refine ⟨o62.wr (by simp), ?_⟩
    intro w65 hw65
    have o65 : Ob w65 c [.int .i64 most, s64.val] T_cache_Cache := by
      have := Ob.st (vs := [s64.val]) (k := 1) (i := 0) o62
      rw [hw65]; exact this
    have c65 : Chg (fun k => k = c) w62 w65 := by rw [hw65]; exact Chg.st (S := fun k => k = c) rfl
    have s65 := c65.size
    have hdrop := x62.drop (m := 1) (by omega)
    have e64 : s64 = Sl.sub s.ptr s.cap 1 l.length trE.sz := by rw [hs64, hlen]; rfl
    rw [← e64] at hdrop
    have b64 : s64.blk = s.blk := by rw [e64]; exact sub_blk s 1 l.length trE.sz
    have hclt := (h1.lt)
    have gc : g'.blk ≠ some c := by
      intro e
      rcases hgbk with hh | hh
      · rw [hh] at e; exact h3.2 e
      · rw [hh] at e; cases e; omega
    have gs : ∀ k, s.blk = some k → g'.blk ≠ some k := by
      intro k hk e
      rcases hgbk with hh | hh
      · rw [hh] at e; exact (h4 k hk).1.2 e
      · have e := Option.some.inj (hh.symm.trans e); have := h2.lt k hk; omega
    refine ⟨⟨j + 1, by omega, ?_, ?_, ?_, hg'b⟩, ?_⟩
    · have e1 : (L.take j).map (·.start) ++ [x.start] = (L.take (j + 1)).map (·.start) := by
        have hLj : L[j]? = some y := by rw [List.getElem?_drop] at hy0; simpa using hy0
        rw [List.take_add_one, hLj, List.map_append, hxy]; rfl
      rw [← e1]
      exact hg'.chg c65 (fun k hk he => gc (by rw [hk, he]))
    · refine ⟨s64, l.drop 1, o65, hdrop.chg c65 (fun k hk he => (h4 k (b64 ▸ hk)).2 he), ⟨h3.1, gc⟩, fun k hk => ?_, by rw [List.length_drop, h5]; simp; omega, fun i x2 y2 hi hy => ?_⟩
      · have hk := b64 ▸ hk
        exact ⟨⟨(h4 k hk).1.1, gs k hk⟩, (h4 k hk).2⟩
      · rw [List.getElem?_drop] at hi hy
        obtain ⟨a, b⟩ := h6 (1 + i) x2 y2 hi (by rw [List.getElem?_drop]; rw [show j + (1 + i) = j + 1 + i by omega]; exact hy)
        refine ⟨(((a.no c60).chg c62 (fun k hk he => hk.1.2 he)).chg c65 (fun k hk he => hk.2.2.1 he)).wid (fun k hk => ?_), b⟩
        refine ⟨⟨hk.1.1, fun e => ?_⟩, by have := hk.2.1; omega, hk.2.2.1, by rw [b64]; exact hk.2.2.2⟩
        rcases hgbk with hh | hh
        · rw [hh] at e; exact hk.1.2 e
        · have e := Option.some.inj (hh.symm.trans e); have := hk.2.1; omega
    · have c1 : Chg B w w60 := cw52.trans c60 (fun _ _ h => h) (fun _ _ h => h.elim)
      have c2 : Chg B w w62 := c1.trans c62 (fun _ _ h => h) (fun k hk he => by have := hgb k he; omega)
      exact c2.trans c65 (fun _ _ h => h) (fun k _ hk => by rw [hk]; exact h3.1)
    · have : g'.len = j + 1 := by rw [hg'.lenOf, List.length_append, hgl2]; rfl
      show L.length - g'.len < L.length - g.len
      omega
  · have hlt : ¬ most < (s.len : Int) := of_decide_eq_false hlt
    have hje : j = L.length - most.toNat := by omega
    subst hje
    exact ⟨g, rfl, hg52, hc52', cw52, hgb⟩
theorem drop_x {B : Nat → Prop} {w : World} {c : Nat} {most : Int} {vs vs' : List TrV} (h : CAt B w c most vs) (hl : vs.length ≤ 100000) (x : Int) (hp' : ∀ n, PlaceS x (vs.map (·.start)) n → vs' = if 0 ≤ n then vs.eraseIdx n.toNat else vs) :
    Calls Try.prog fn_cache_Cache_Drop #[.pointer (some ⟨c, 0, none⟩), .int .i64 x] w fun e w' => e = .returned (.bool (decide (x ∈ vs.map (·.start)))) ∧ CAt B w' c most vs' ∧ Chg B w w' := by
  refine (cache_Cache_Drop_lift (K := fun r w' => r = .bool (decide (x ∈ vs.map (·.start))) ∧ CAt B w' c most vs' ∧ Chg B w w') ?_).mono (by rintro e w' ⟨r, rfl, rfl, h⟩; exact ⟨rfl, h⟩)
  unfold cache_Cache_Drop_sh
  refine (place_any h x).mono ?_
  rintro e w4 ⟨n, rfl, hp, c4⟩
  have ev := hp' n hp
  refine ⟨n, rfl, brB_of (fun hlt => ?_) (fun hge => ?_)⟩
  · have hlt := of_decide_eq_true hlt
    rw [if_neg (by omega)] at ev
    have hn : x ∉ vs.map (·.start) := by
      rcases hp with ⟨_, hn⟩ | ⟨k, rfl, _⟩
      · exact hn
      · omega
    exact ⟨by rw [decide_eq_false hn], by rw [ev]; exact h.no c4, c4.mono (fun _ _ h => h.elim)⟩
  · have hge := of_decide_eq_false hge
    rw [if_pos (by omega)] at ev
    obtain ⟨k, rfl, hk, hm⟩ : ∃ k : Nat, n = k ∧ k < vs.length ∧ x ∈ vs.map (·.start) := by
      rcases hp with ⟨rfl, _⟩ | ⟨k, rfl, hk, _⟩
      · omega
      · exact ⟨k, rfl, by have := (List.getElem?_eq_some_iff.1 hk).1; simpa using this, List.mem_of_getElem? hk⟩
    obtain ⟨s, l, h1, h2, h3, h4, h5, h6⟩ := h.no c4
    refine ⟨s, h1.cell rfl, ?_⟩
    rw [wr_of (by omega) (by omega)]
    refine (del_any h2 (k := k) (by omega) (by omega)).mono ?_
    rintro e w8 ⟨s9, rfl, h9, b9, c8⟩
    obtain ⟨g1, g2⟩ := del_step h1 h3 h4 h5 h6 h9 b9 c8
    refine ⟨s9, rfl, g1, fun w10 hw10 => ?_⟩
    obtain ⟨a1, a2⟩ := g2 w10 hw10
    exact ⟨by rw [decide_eq_true hm], by rw [ev, Int.toNat_natCast]; exact a1, c4.trans a2 (fun _ _ h => h.elim) (fun _ _ h => h)⟩
theorem get_no {B : Nat → Prop} {w : World} {c : Nat} {most : Int} {vs : List TrV} (h : CAt B w c most vs) (x : Int) (hx : x ∉ vs.map (·.start)) :
    Calls Try.prog fn_cache_Cache_Get #[.pointer (some ⟨c, 0, none⟩), .int .i64 x] w fun e w' => e = .returned (.tuple #[.agg (trC tr0).toArray, .bool false]) ∧ Chg No w w' := by
  refine (cache_Cache_Get_lift (K := fun r w' => r = .tuple #[.agg (trC tr0).toArray, .bool false] ∧ Chg No w w') ?_).mono (by rintro e w' ⟨r, rfl, rfl, h⟩; exact ⟨rfl, h⟩)
  unfold cache_Cache_Get_sh
  intro b3 w4 hb3 hw4
  have o4 : Ob w4 b3 (trC tr0) T_api_Trace := by rw [hw4, hb3]; exact Ob.new w (trC tr0) T_api_Trace
  have c4 : Chg No w w4 := by rw [hw4]; exact Chg.alloc _ _ _
  refine (place_any (h.no c4) x).mono ?_
  rintro e w6 ⟨n, rfl, hp, c6⟩
  have hn : n = -1 := by
    rcases hp with ⟨rfl, _⟩ | ⟨k, rfl, hk, _⟩
    · rfl
    · exact absurd (List.mem_of_getElem? hk) hx
  subst hn
  refine ⟨_, rfl, ?_⟩
  rw [decide_eq_true (by omega)]
  have o6 := o4.no c6
  refine brB_t ⟨o6.wr (by simp [trC]), fun w7 hw7 => ?_⟩
  have o7 : Ob w7 b3 (trC tr0) T_api_Trace := by
    have := Ob.st (vs := trC tr0) (k := 0) (i := 0) o6
    rw [trC_whole] at this
    rw [hw7]; exact this
  have c7 : Chg (fun j => j = b3) w6 w7 := by rw [hw7]; exact Chg.st (S := fun j => j = b3) rfl
  refine ⟨tr0.start, tr0.slots, tr0.backs, tr0.grow, tr0.growBack, tr0.ins, tr0.outs, tr0.last, tr0.cells, o7.cell rfl, o7.cell rfl, o7.cell rfl, o7.cell rfl, o7.cell rfl, o7.cell rfl, o7.cell rfl, o7.cell rfl, o7.cell rfl, rfl, (c4.trans c6 (fun _ _ h => h) (fun _ _ h => h)).trans c7 (fun _ _ h => h) (fun j hj he => by omega)⟩
theorem eldest_no {B : Nat → Prop} {w : World} {c : Nat} {most : Int} (h : CAt B w c most []) : Calls Try.prog fn_cache_Cache_Eldest #[.pointer (some ⟨c, 0, none⟩)] w fun e w' => e = .returned (.tuple #[.int .i64 0, .bool false]) ∧ w = w' := by
  refine (cache_Cache_Eldest_lift (K := fun r w' => r = .tuple #[.int .i64 0, .bool false] ∧ w = w') ?_).mono (by rintro e w' ⟨v, rfl, rfl, h⟩; exact ⟨rfl, h⟩)
  unfold cache_Cache_Eldest_sh
  refine (clen_any h).mono ?_
  rintro e w3 ⟨rfl, rfl⟩
  exact ⟨_, rfl, brB_t ⟨rfl, rfl⟩⟩
/-! ### A cache that is nil -/
theorem placeN (x : Int) (w : World) : Calls Try.prog fn_cache_Cache_place #[.pointer none, .int .i64 x] w fun e w' => e = .returned (.int .i64 (-1)) ∧ Chg No w w' := by
  refine (cache_Cache_place_nil_lift (K := fun r w' => r = .int .i64 (-1) ∧ Chg No w w') ?_).mono (by rintro e w' ⟨v, rfl, rfl, h⟩; exact ⟨rfl, h⟩)
  intro b w3 hb hw
  exact ⟨rfl, by rw [hw]; exact Chg.alloc _ _ _⟩
theorem lenN (w : World) : Calls Try.prog fn_cache_Cache_Len #[.pointer none] w fun e w' => e = .returned (.int .i64 0) ∧ w = w' := by
  exact (cache_Cache_Len_nil_lift (K := fun r w' => r = .int .i64 0 ∧ w = w') ⟨rfl, rfl⟩).mono (by rintro e w' ⟨v, rfl, rfl, h⟩; exact ⟨rfl, h⟩)
theorem startsN (w : World) : Calls Try.prog fn_cache_Cache_Starts #[.pointer none] w fun e w' => e = .returned nilS.val ∧ w = w' := by
  exact (cache_Cache_Starts_nil_lift (K := fun r w' => r = nilS.val ∧ w = w') ⟨rfl, rfl⟩).mono (by rintro e w' ⟨v, rfl, rfl, h⟩; exact ⟨rfl, h⟩)
theorem eldestN (w : World) : Calls Try.prog fn_cache_Cache_Eldest #[.pointer none] w fun e w' => e = .returned (.tuple #[.int .i64 0, .bool false]) ∧ w = w' := by
  refine (cache_Cache_Eldest_nil_lift (K := fun r w' => r = .tuple #[.int .i64 0, .bool false] ∧ w = w') ?_).mono (by rintro e w' ⟨v, rfl, rfl, h⟩; exact ⟨rfl, h⟩)
  refine (lenN w).mono ?_
  rintro e w2 ⟨rfl, rfl⟩
  exact ⟨0, rfl, brB_t ⟨rfl, rfl⟩⟩
theorem hasN (x : Int) (w : World) : Calls Try.prog fn_cache_Cache_Has #[.pointer none, .int .i64 x] w fun e w' => e = .returned (.bool false) ∧ Chg No w w' := by
  refine (cache_Cache_Has_nil_lift (K := fun r w' => r = .bool false ∧ Chg No w w') ?_).mono (by rintro e w' ⟨v, rfl, rfl, h⟩; exact ⟨rfl, h⟩)
  refine (placeN x w).mono ?_
  rintro e w3 ⟨rfl, c⟩
  exact ⟨-1, rfl, rfl, c⟩
theorem dropN (x : Int) (w : World) : Calls Try.prog fn_cache_Cache_Drop #[.pointer none, .int .i64 x] w fun e w' => e = .returned (.bool false) ∧ Chg No w w' := by
  refine (cache_Cache_Drop_nil_lift (K := fun r w' => r = .bool false ∧ Chg No w w') ?_).mono (by rintro e w' ⟨v, rfl, rfl, h⟩; exact ⟨rfl, h⟩)
  refine (placeN x w).mono ?_
  rintro e w3 ⟨rfl, c⟩
  exact ⟨-1, rfl, brB_t ⟨rfl, c⟩⟩
theorem putN (t : Tr) (w : World) : Calls Try.prog fn_cache_Cache_Put #[.pointer none, .agg (trC t).toArray] w fun e w' => e = .returned nilS.val ∧ Chg No w w' := by
  refine (cache_Cache_Put_nil_lift (K := fun r w' => r = nilS.val ∧ Chg No w w') ?_).mono (by rintro e w' ⟨v, rfl, rfl, h⟩; exact ⟨rfl, h⟩)
  intro b w3 hb hw
  exact ⟨rfl, by rw [hw]; exact Chg.alloc _ _ _⟩
theorem getN (x : Int) (w : World) : Calls Try.prog fn_cache_Cache_Get #[.pointer none, .int .i64 x] w fun e w' => e = .returned (.tuple #[.agg (trC tr0).toArray, .bool false]) ∧ Chg No w w' := by
  refine (cache_Cache_Get_nil_lift (K := fun r w' => r = .tuple #[.agg (trC tr0).toArray, .bool false] ∧ Chg No w w') ?_).mono (by rintro e w' ⟨r, rfl, rfl, h⟩; exact ⟨rfl, h⟩)
  unfold cache_Cache_Get_nil_sh
  intro b3 w4 hb3 hw4
  have o4 : Ob w4 b3 (trC tr0) T_api_Trace := by rw [hw4, hb3]; exact Ob.new w (trC tr0) T_api_Trace
  have c4 : Chg No w w4 := by rw [hw4]; exact Chg.alloc _ _ _
  refine (placeN x w4).mono ?_
  rintro e w6 ⟨rfl, c6⟩
  have o6 := o4.no c6
  refine ⟨_, rfl, brB_t ⟨o6.wr (by simp [trC]), fun w7 hw7 => ?_⟩⟩
  have o7 : Ob w7 b3 (trC tr0) T_api_Trace := by
    have := Ob.st (vs := trC tr0) (k := 0) (i := 0) o6
    rw [trC_whole] at this
    rw [hw7]; exact this
  have c7 : Chg (fun j => j = b3) w6 w7 := by rw [hw7]; exact Chg.st (S := fun j => j = b3) rfl
  refine ⟨tr0.start, tr0.slots, tr0.backs, tr0.grow, tr0.growBack, tr0.ins, tr0.outs, tr0.last, tr0.cells, o7.cell rfl, o7.cell rfl, o7.cell rfl, o7.cell rfl, o7.cell rfl, o7.cell rfl, o7.cell rfl, o7.cell rfl, o7.cell rfl, rfl, (c4.trans c6 (fun _ _ h => h) (fun _ _ h => h)).trans c7 (fun _ _ h => h) (fun j hj he => by omega)⟩
theorem trace_x (start v : Int) (w : World) : Calls Try.prog fn_hollowaylaw21_trace #[.int .i64 start, .int .i64 v] w fun e w' => ∃ t : Tr, e = .returned (.agg (trC t).toArray) ∧ TrX (fun k => w.heap.size ≤ k ∧ k < w'.heap.size) w' t (trV start v) ∧ Chg No w w' := by
  refine (hollowaylaw21_trace_lift (K := fun r w' => ∃ t : Tr, r = .agg (trC t).toArray ∧ TrX (fun k => w.heap.size ≤ k ∧ k < w'.heap.size) w' t (trV start v) ∧ Chg No w w') ?_).mono (by rintro e w' ⟨v, rfl, t', rfl, h⟩; exact ⟨t', rfl, h⟩)
  unfold hollowaylaw21_trace_sh
  intro b3 w4 hb3 hw4
  have o4 : Ob w4 b3 (trC tr0) T_api_Trace := by rw [hw4, hb3]; exact Ob.new w (trC tr0) T_api_Trace
  have c4 : Chg No w w4 := by rw [hw4]; exact Chg.alloc _ _ _
  intro b5 w6 hb5 hw6
  have h6 : Ow insE w6 ⟨some ⟨b5, 0, none⟩, 1, 1⟩ [⟨1, v, 0, 0, 0⟩] := by
    rw [hw6, hb5]; exact Ow.lit (E := insE) w4 [⟨1, v, 0, 0, 0⟩] (insE.e ⟨1, v, 0, 0, 0⟩) (by rw [fl_one]) (by show 1 ≤ maxLen; unfold maxLen; omega)
  have c6 : Chg No w4 w6 := by rw [hw6]; exact Chg.alloc _ _ _
  intro b7 w8 hb7 hw8
  have h8 : Ow ouE w8 ⟨some ⟨b7, 0, none⟩, 1, 1⟩ [(5, 1)] := by
    rw [hw8, hb7]; exact Ow.lit (E := ouE) w6 [(5, 1)] (ouE.e (5, 1)) (by rw [fl_one]) (by show 1 ≤ maxLen; unfold maxLen; omega)
  have c8 : Chg No w6 w8 := by rw [hw8]; exact Chg.alloc _ _ _
  intro b9 w10 hb9 hw10
  have h10 : Ow intE w10 ⟨some ⟨b9, 0, none⟩, 1, 1⟩ [1] := by
    rw [hw10, hb9]; exact Ow.lit (E := intE) w8 [1] (intE.e 1) (by rw [fl_one]) (by show 1 ≤ maxLen; unfold maxLen; omega)
  have c10 : Chg No w8 w10 := by rw [hw10]; exact Chg.alloc _ _ _
  have o10 := ((o4.no c6).no c8).no c10
  refine ⟨o10.wr (by simp [trC]), ?_⟩
  intro w11 hw11
  obtain ⟨t, ht⟩ : ∃ t : Tr, t = ⟨start, 0, 0, 0, 0, ⟨some ⟨b5, 0, none⟩, 1, 1⟩, ⟨some ⟨b7, 0, none⟩, 1, 1⟩, 0, ⟨some ⟨b9, 0, none⟩, 1, 1⟩⟩ := ⟨_, rfl⟩
  have o11 : Ob w11 b3 (trC t) T_api_Trace := by
    have := Ob.st (vs := trC t) (k := 0) (i := 0) o10
    rw [trC_whole] at this
    rw [hw11, ht]; rw [ht] at this; exact this
  have c11 : Chg (fun k => k = b3) w10 w11 := by rw [hw11]; exact Chg.st (S := fun k => k = b3) rfl
  have s4 := c4.size
  have s6 := c6.size
  have s8 := c8.size
  have s10 := c10.size
  have s11 := c11.size
  have l3 := o4.lt
  have l5 : b5 < w6.heap.size := h6.lt rfl
  have l7 : b7 < w8.heap.size := h8.lt rfl
  have l9 : b9 < w10.heap.size := h10.lt rfl
  refine ⟨t.start, t.slots, t.backs, t.grow, t.growBack, t.ins, t.outs, t.last, t.cells, o11.cell rfl, o11.cell rfl, o11.cell rfl, o11.cell rfl, o11.cell rfl, o11.cell rfl, o11.cell rfl, o11.cell rfl, o11.cell rfl, t, rfl, ?_, ?_⟩
  · subst ht
    have e5 : ∀ k, (⟨some ⟨b5, 0, none⟩, 1, 1⟩ : Sl).blk = some k → k = b5 := fun k hk => (Option.some.inj hk).symm
    have e7 : ∀ k, (⟨some ⟨b7, 0, none⟩, 1, 1⟩ : Sl).blk = some k → k = b7 := fun k hk => (Option.some.inj hk).symm
    have e9 : ∀ k, (⟨some ⟨b9, 0, none⟩, 1, 1⟩ : Sl).blk = some k → k = b9 := fun k hk => (Option.some.inj hk).symm
    refine ⟨⟨rfl, rfl, rfl, rfl, rfl, rfl⟩, (((h6.no c8).no c10).chg c11 (fun k hk he => by have := e5 k hk; omega)).ox, ((h8.no c10).chg c11 (fun k hk he => by have := e7 k hk; omega)).ox, (h10.chg c11 (fun k hk he => by have := e9 k hk; omega)).ox, fun k hk => ⟨?_, fun he => ?_, fun he => ?_⟩, fun k hk => ⟨?_, fun he => ?_⟩, fun k hk => ?_⟩
    · have := e5 k hk; omega
    · have := e5 k hk; have := e7 k he; omega
    · have := e5 k hk; have := e9 k he; omega
    · have := e7 k hk; omega
    · have := e7 k hk; have := e9 k he; omega
    · have := e9 k hk; omega
  · have c : Chg No w w10 := ((c4.trans c6 (fun _ _ h => h) (fun _ _ h => h)).trans c8 (fun _ _ h => h) (fun _ _ h => h)).trans c10 (fun _ _ h => h) (fun _ _ h => h)
    exact c.trans c11 (fun _ _ h => h) (fun k hk he => by omega)
theorem starts_x {b0 : Nat} {w : World} {c : Nat} {most : Int} {vs : List TrV} (h : Ca b0 w c most vs) (hl : vs.length ≤ 100000) : Calls Try.prog fn_cache_Cache_Starts #[.pointer (some ⟨c, 0, none⟩)] w fun e w' => ∃ s' : Sl, e = .returned s'.val ∧ Ow intE w' s' (vs.map (·.start)) ∧ Chg No w w' ∧ (∀ k, s'.blk = some k → w.heap.size ≤ k) := by
  refine (cache_Cache_Starts_lift (K := fun r w' => ∃ s' : Sl, r = s'.val ∧ Ow intE w' s' (vs.map (·.start)) ∧ Chg No w w' ∧ (∀ k, s'.blk = some k → w.heap.size ≤ k)) ?_).mono (by rintro e w' ⟨v, rfl, t', rfl, h⟩; exact ⟨t', rfl, h⟩)
  have tr : ∀ {x y z : World}, Chg No x y → Chg No y z → Chg No x z := fun h k => h.trans k (fun _ _ h => h) (fun _ _ h => h)
  unfold cache_Cache_Starts_sh
  obtain ⟨B, _, s, l, h1, h2, h3, h4, h5, h6⟩ := h
  have hst := starts_eq h5 h6
  have hlen := h2.rd.len
  refine ⟨s, h1.cell rfl, ?_⟩
  rw [← hst]
  refine ⟨fun o n w' => ∃ k : Nat, n = k ∧ k ≤ l.length ∧ Ow intE w' o ((l.take k).map (·.start)) ∧ (∀ k, o.blk = some k → w.heap.size ≤ k) ∧ Chg No w w', fun o n _ => l.length - n.toNat, ⟨0, rfl, Nat.zero_le _, Ow.nil _ _, (fun k hk => by cases hk), Chg.refl _ _⟩, ?_⟩
  rintro o n w3 ⟨k, rfl, hk, ho, hob, hc⟩
  refine brB_of (fun hlt => ?_) (fun hlt => ?_)
  · have hlt : k < l.length := by simp at hlt; omega
    obtain ⟨t, ht⟩ : ∃ t, l[k]? = some t := ⟨_, List.getElem?_eq_getElem hlt⟩
    refine (h2.rd.no hc).ix (by omega) (by rw [Int.toNat_natCast]; exact ht) fun a ha hcell => ?_
    have e0 : ∀ q : Addr, q.add 0 = q := fun q => by unfold Addr.add; simp
    have c0 := hcell 0 _ rfl
    rw [e0] at c0
    refine ⟨_, _, _, _, _, t.ins, t.outs, _, t.cells, c0, hcell 1 _ rfl, hcell 2 _ rfl, hcell 3 _ rfl, hcell 4 _ rfl, hcell 5 _ rfl, hcell 6 _ rfl, hcell 7 _ rfl, hcell 8 _ rfl, ?_⟩
    intro b15 w16 hb15 hw16
    have o16 : Ob w16 b15 (trC tr0) T_api_Trace := by rw [hw16, hb15]; exact Ob.new w3 (trC tr0) T_api_Trace
    have c16 : Chg No w3 w16 := by rw [hw16]; exact Chg.alloc _ _ _
    refine ⟨o16.wr (by simp [trC]), ?_⟩
    intro w17 hw17
    have o17 : Ob w17 b15 (trC t) T_api_Trace := by
      have := Ob.st (vs := trC t) (k := 0) (i := 0) o16
      rw [trC_whole] at this
      rw [hw17]; exact this
    have c17 : Chg No w3 w17 := by
      rw [hw17]
      exact c16.trans (Chg.st (S := fun k => k = b15) rfl) (fun _ _ h => h) (fun j hj he => by omega)
    refine ⟨_, o17.cell rfl, ?_⟩
    intro b20 w21 hb20 hw21
    have c21 : Chg No w17 w21 := by rw [hw21]; exact Chg.alloc _ _ _
    have hlit : Ow intE w21 ⟨some ⟨b20, 0, none⟩, 1, 1⟩ [t.start] := by
      rw [hw21, hb20]
      exact Ow.lit w17 [t.start] [.int .i64 t.start] (by rw [fl_one]; rfl) (by show 1 ≤ maxLen; unfold maxLen; omega)
    have hol : ((l.take k).map (·.start)).length = k := by rw [List.length_map, List.length_take]; omega
    refine app_ok intOk rfl rfl ((ho.no c17).no c21) hlit.rd (by rw [hol]; show (k + 1) * 8 ≤ _; omega) (by rw [hol]; show k + 1 ≤ _; unfold maxLen; omega) ?_
    intro o' w23 ho' c23 hbk
    have s3 := hc.size
    have s17 := c17.size
    have s21 := c21.size
    rw [wr_of (by omega) (by omega)]
    refine ⟨⟨k + 1, by omega, by omega, ?_, fun j hj => ?_, ?_⟩, by show l.length - Int.toNat ((k : Int) + 1) < l.length - Int.toNat (k : Int); omega⟩
    · have e1 : (l.take k).map (·.start) ++ [t.start] = (l.take (k + 1)).map (·.start) := by
        rw [List.take_add_one, ht, List.map_append]; rfl
      rw [← e1]; exact ho'
    · rcases hbk with hh | hh
      · rw [hh] at hj; exact hob j hj
      · have := Option.some.inj (hh.symm.trans hj); omega
    · exact (tr (tr hc c17) c21).trans c23 (fun _ _ h => h) (fun j hj he => by have := hob j he; omega)
  · have hlt : k = l.length := by simp at hlt; omega
    subst hlt
    rw [List.take_length] at ho
    exact ⟨o, rfl, ho, hc, hob⟩
end Go.Proofs.Ytlpbdloloaoapaa

/- A book of numbers, instructions and exits without stacks: put in, looked at to the end. (Printed by mkbkv.py.) -/
set_option maxRecDepth 100000
namespace Go.Proofs.Ytlpbdloloaoapaa
open Go.RowKit

theorem trN {a b c : World} (h : Chg No a b) (k : Chg No b c) : Chg No a c := h.trans k (fun _ _ h => h) (fun _ _ h => h)
theorem tdw {w w' : World} (h : w' = World.drew w) : Chg No w w' := by rw [h]; exact Chg.drew _ _
theorem tal {w w' : World} {ob : Obj} (h : w' = World.alloc w ob) : Chg No w w' := by rw [h]; exact Chg.alloc _ _ _
def insC (x : In5) : List Value := [.int .i64 x.a, .int .i64 x.b, .int .i64 x.c, .int .i64 x.d, .int .i64 x.e]
theorem ins_eql (x y : In5) (a b : Operand) (w : World) : ((do eqGuard .eql T_api_Ins a b (.agg (insC x).toArray) (.agg (insC y).toArray); binOp .eql T_api_Ins (.agg (insC x).toArray) (.agg (insC y).toArray) : Sem Value)).run Try.prog w = .ok (.bool (decide (x.a = y.a ∧ x.b = y.b ∧ x.c = y.c ∧ x.d = y.d ∧ x.e = y.e))) w := by
  have u1 := Try.underlying3
  have hS : Try.prog.underlying T_api_Ins = some (.struct (Try.prog.fieldsOf T_api_Ins)) := by kernel_rfl
  have hp : Try.prog.stoodInHeld T_api_Ins = false := by kernel_rfl
  have hm : Try.prog.eqGuardType Try.prog.depth T_api_Ins = false := by kernel_rfl
  simp only [insC, Sem.run_bind, run_eqGuard_agg w .eql T_api_Ins a b _ _ hm, Result.andThen_ok, run_eql_struct]
  rw [show (10000 : Nat) = 9999 + 1 from rfl, run_equalIn_agg w 9999 T_api_Ins _ _ hS hp]
  simp only [Program.fieldsOf, Try.underlying45]
  go_simp
  by_cases g1 : x.a = y.a <;> by_cases g2 : x.b = y.b <;> by_cases g3 : x.c = y.c <;> by_cases g4 : x.d = y.d <;> by_cases g5 : x.e = y.e <;> simp [g1, g2, g3, g4, g5]
theorem sameCodes_ok : SameOk Try.prog insE fn_hollowaybook_SameCodes := by
  intro s t xs w hs ht
  refine (hollowaybook_SameCodes_lift (K := fun r w' => r = .bool true ∧ Chg No w w') ?_).mono (by rintro e w' ⟨r, rfl, rfl, h⟩; exact ⟨rfl, h⟩)
  unfold hollowaybook_SameCodes_sh
  have h1 := hs.len
  have h2 := ht.len
  have hc := hs.capL
  have e1 : ((s.len : Int) != (t.len : Int)) = false := by rw [h1, h2]; simp
  rw [e1]
  refine brB_f ?_
  refine ⟨fun n w' => ∃ k : Nat, n = k ∧ k ≤ xs.length ∧ Chg No w w', fun n _ => xs.length - n.toNat, ⟨0, rfl, Nat.zero_le _, Chg.refl _ _⟩, ?_⟩
  rintro n w3 ⟨k, rfl, hk, hch⟩
  refine brB_of (fun hlt => ?_) (fun hlt => ⟨rfl, hch⟩)
  have hlt : k < xs.length := by simp at hlt; omega
  intro w5 hw5
  have c5 : Chg No w w5 := hch.trans (by rw [hw5]; exact Chg.drew No _) (fun _ _ h => h) (fun _ _ h => h)
  obtain ⟨x, hx⟩ : ∃ x, xs[k]? = some x := ⟨_, List.getElem?_eq_getElem hlt⟩
  refine (hs.no c5).ix (i := (k : Int)) (by omega) (by rw [Int.toNat_natCast]; exact hx) fun a ha hcell => ?_
  have q1 := hcell 0 _ rfl
  rw [add0] at q1
  refine ⟨_, _, _, _, _, held_Lw q1, held_Lw (hcell 1 _ rfl), held_Lw (hcell 2 _ rfl), held_Lw (hcell 3 _ rfl), held_Lw (hcell 4 _ rfl), ?_⟩
  refine (ht.no c5).ix (i := (k : Int)) (by omega) (by rw [Int.toNat_natCast]; exact hx) fun a' ha' hcell' => ?_
  have q2 := hcell' 0 _ rfl
  rw [add0] at q2
  refine ⟨_, _, _, _, _, held_Lw q2, held_Lw (hcell' 1 _ rfl), held_Lw (hcell' 2 _ rfl), held_Lw (hcell' 3 _ rfl), held_Lw (hcell' 4 _ rfl), ?_⟩
  refine ⟨_, _, ins_eql x x _ _ _, ?_⟩
  rw [show (!decide (x.a = x.a ∧ x.b = x.b ∧ x.c = x.c ∧ x.d = x.d ∧ x.e = x.e)) = false by simp]
  refine brB_f ?_
  rw [wr_of (by omega) (by omega)]
  exact ⟨⟨k + 1, by omega, by omega, c5⟩, by show xs.length - Int.toNat ((k : Int) + 1) < xs.length - Int.toNat (k : Int); omega⟩
theorem copyCodes_any (s : Sl) (xs : List In5) (w : World) (h : Rd insE w s xs) (hl : xs.length ≤ 1000000) : Calls Try.prog fn_hollowaybook_copyCodes #[s.val] w fun e w' => ∃ s' : Sl, e = .returned s'.val ∧ Ow insE w' s' xs ∧ Chg No w w' ∧ (∀ k, s'.blk = some k → w.heap.size ≤ k) := by
  refine (hollowaybook_copyCodes_lift (K := fun r w' => ∃ s' : Sl, r = s'.val ∧ Ow insE w' s' xs ∧ Chg No w w' ∧ (∀ k, s'.blk = some k → w.heap.size ≤ k)) ?_).mono (by rintro e w' ⟨r, rfl, s', rfl, h⟩; exact ⟨s', rfl, h⟩)
  unfold hollowaybook_copyCodes_sh
  refine app_ok insOk (s := nilS) (t := s) rfl rfl (Ow.nil _ _) h (by show (0 + xs.length) * 40 ≤ _; omega) (by show 0 + xs.length ≤ _; unfold maxLen; omega) ?_
  intro s' w' h' c' b'
  refine ⟨s', rfl, h', c'.trans (Chg.refl No _) (fun k hk he => by cases he) (fun _ _ h => h), fun k hk => ?_⟩
  rcases b' with hh | hh
  · rw [hh] at hk; cases hk
  · have := Option.some.inj (hh.symm.trans hk); omega
def ouC (x : Int × Int) : List Value := [.int .i64 x.1, .int .i64 x.2, nilS.val, nilS.val]
theorem sameExits_ok : SameOk Try.prog ouE fn_hollowaybook_SameExits := by
  intro s t xs w hs ht
  refine (hollowaybook_SameExits_lift (K := fun r w' => r = .bool true ∧ Chg No w w') ?_).mono (by rintro e w' ⟨r, rfl, rfl, h⟩; exact ⟨rfl, h⟩)
  unfold hollowaybook_SameExits_sh
  have h1 := hs.len
  have h2 := ht.len
  have hc := hs.capL
  have e1 : ((s.len : Int) != (t.len : Int)) = false := by rw [h1, h2]; simp
  rw [e1]
  refine brB_f ?_
  refine ⟨fun n w' => ∃ k : Nat, n = k ∧ k ≤ xs.length ∧ Chg No w w', fun n _ => xs.length - n.toNat, ⟨0, rfl, Nat.zero_le _, Chg.refl _ _⟩, ?_⟩
  rintro n w3 ⟨k, rfl, hk, hch⟩
  refine brB_of (fun hlt => ?_) (fun hlt => ⟨rfl, hch⟩)
  have hlt : k < xs.length := by simp at hlt; omega
  refine ⟨fun b w' => b = false ∧ Chg No w w', ?_, ?_⟩
  · rintro b w29 ⟨rfl, c29⟩
    refine brB_f ?_
    rw [wr_of (by omega) (by omega)]
    exact ⟨⟨k + 1, by omega, by omega, c29⟩, by show xs.length - Int.toNat ((k : Int) + 1) < xs.length - Int.toNat (k : Int); omega⟩
  intro w5 hw5
  have c5 : Chg No w w5 := trN hch (tdw hw5)
  obtain ⟨o, hx⟩ : ∃ x, xs[k]? = some x := ⟨_, List.getElem?_eq_getElem hlt⟩
  have ixa : ∀ {z : Sl} (_ : Rd ouE w z xs) {w' : World} {F : Addr → Prop}, Chg No w w' → (∀ a, z.ptr = some a → (∀ w'', Chg No w w'' → ∀ (j : Nat) (u : Value), (ouC o)[j]? = some u → w''.cell? ((a.add (k * 4)).add j) = some u) → F a) → ∃ a, z.ptr = some a ∧ 0 ≤ (k : Int) ∧ (k : Int) < (z.len : Int) ∧ F a := fun {z} hz {w'} {F} c hF => by
    refine (hz.no c).ix (i := (k : Int)) (by omega) (by rw [Int.toNat_natCast]; exact hx) fun a ha _ => hF a ha fun w'' c'' => ?_
    obtain ⟨a2, ha2, _, _, hc2⟩ := (hz.no c'').ix (i := (k : Int)) (G := fun a => ∀ (j : Nat) (u : Value), (ouC o)[j]? = some u → w''.cell? ((a.add (k * 4)).add j) = some u) (by omega) (by rw [Int.toNat_natCast]; exact hx) fun a _ hcell j u hu => hcell j u hu
    cases ha.symm.trans ha2
    exact hc2
  refine ⟨fun w' => Chg No w w', c5, ?_⟩
  have eqI : ∀ {x : Int} {A B : Prop}, A → brB (x == x) A B := fun k => by rw [show (_ == _) = true from by simp]; exact brB_t k
  refine ixa hs c5 fun a ha hca => ⟨o.1, fun w'' c'' => by have := hca w'' c'' 0 _ rfl; rw [addr0] at this; exact this, ?_⟩
  refine ixa ht c5 fun b hb hcb => ⟨o.1, fun w'' c'' => by have := hcb w'' c'' 0 _ rfl; rw [addr0] at this; exact this, eqI ?_⟩
  refine ixa hs c5 fun a ha hca => ⟨o.2, fun w'' c'' => hca w'' c'' 1 _ rfl, ?_⟩
  refine ixa ht c5 fun b hb hcb => ⟨o.2, fun w'' c'' => hcb w'' c'' 1 _ rfl, eqI ?_⟩
  refine ixa hs c5 fun a ha hca => ⟨nilS, fun w'' c'' => hca w'' c'' 2 _ rfl, ?_⟩
  refine ixa ht c5 fun b hb hcb => ⟨nilS, fun w'' c'' => hcb w'' c'' 2 _ rfl, ?_⟩
  refine (sameInts_ok nilS nilS [] w5 (Rd.nil _ _) (Rd.nil _ _)).mono ?_
  rintro e w20 ⟨rfl, c20⟩
  have k20 := trN c5 c20
  refine ⟨_, rfl, k20, brB_t ?_⟩
  refine ixa hs k20 fun a ha hca => ⟨nilS, fun w'' c'' => hca w'' c'' 3 _ rfl, ?_⟩
  refine ixa ht k20 fun b hb hcb => ⟨nilS, fun w'' c'' => hcb w'' c'' 3 _ rfl, ?_⟩
  refine (sameInts_ok nilS nilS [] w20 (Rd.nil _ _) (Rd.nil _ _)).mono ?_
  rintro e w27 ⟨rfl, c27⟩
  exact ⟨_, rfl, rfl, trN k20 c27⟩
theorem copyNil_any (w : World) : Calls Try.prog fn_hollowaybook_copyInts #[nilS.val] w fun e w' => e = .returned nilS.val ∧ Chg No w w' := by
  refine (hollowaybook_copyInts_lift (K := fun r w' => r = nilS.val ∧ Chg No w w') ?_).mono (by rintro e w' ⟨r, rfl, rfl, h⟩; exact ⟨rfl, h⟩)
  unfold hollowaybook_copyInts_sh
  have hr : (Builtin.append_ #[T_sl_int, T_sl_int] T_sl_int #[.slice none 0 0, nilS.val]).run Try.prog w = .ok nilS.val w := by
    obtain ⟨i, z, hi, hz, _⟩ := intOk.info
    exact run_append_owned_none (P := Try.prog) (w := w) 0 T_sl_int T_sl_int T_int i 1 intOk.und hi _ 0 [] (Own.nil w T_int 1)
  exact ⟨nilS, w, hr, rfl, Chg.refl _ _⟩
theorem copyExits_any (l : Sl) (xs : List (Int × Int)) (w : World) (hl : Rd ouE w l xs) (hn : xs.length ≤ 1000000) :
    Calls Try.prog fn_hollowaybook_copyExits #[l.val] w fun e w' => ∃ s' : Sl, e = .returned s'.val ∧ Ow ouE w' s' xs ∧ Chg No w w' ∧ (∀ k, s'.blk = some k → w.heap.size ≤ k) := by
  refine (hollowaybook_copyExits_lift (K := fun r w' => ∃ s' : Sl, r = s'.val ∧ Ow ouE w' s' xs ∧ Chg No w w' ∧ (∀ k, s'.blk = some k → w.heap.size ≤ k)) ?_).mono (by rintro e w' ⟨r, rfl, s', rfl, h⟩; exact ⟨s', rfl, h⟩)
  unfold hollowaybook_copyExits_sh
  refine app_ok ouOk (s := nilS) (t := l) rfl rfl (Ow.nil _ _) hl (by show (0 + xs.length) * 64 ≤ _; omega) (by show 0 + xs.length ≤ _; unfold maxLen; omega) ?_
  intro s w3 h3 c3 b3
  rw [List.nil_append] at h3
  have c3 : Chg No w w3 := c3.trans (Chg.refl No _) (fun k hk he => by cases he) (fun _ _ h => h)
  have new : ∀ k, s.blk = some k → w.heap.size ≤ k := fun k hk => by
    rcases b3 with hh | hh
    · rw [hh] at hk; cases hk
    · have := Option.some.inj (hh.symm.trans hk); omega
  have hsl := h3.rd.len
  refine ⟨fun n w' => ∃ k : Nat, n = k ∧ k ≤ xs.length ∧ Ow ouE w' s xs ∧ Chg No w w', fun n _ => xs.length - n.toNat, ⟨0, rfl, Nat.zero_le _, h3, c3⟩, ?_⟩
  rintro n w4 ⟨k, rfl, hk, h4, c4⟩
  refine brB_of (fun hlt => ?_) (fun _ => ⟨s, rfl, h4, c4, new⟩)
  have hlt : k < xs.length := by simp at hlt; omega
  obtain ⟨o, ho⟩ : ∃ x, xs[k]? = some x := ⟨_, List.getElem?_eq_getElem hlt⟩
  intro w6 hw6
  have c6 := tdw hw6
  have h6 := h4.no c6
  obtain ⟨a, ha, _⟩ := h6.rd.at ho
  have ixk : ∀ {F : Addr → Prop}, F a → ∃ a, s.ptr = some a ∧ 0 ≤ (k : Int) ∧ (k : Int) < (s.len : Int) ∧ F a := fun hF => ⟨a, ha, by omega, by omega, hF⟩
  have hat : ∀ y : World, Ow ouE y s xs → ∀ (j : Nat) (u : Value), (ouC o)[j]? = some u → y.cell? ((a.add (k * 4)).add j) = some u := fun y hy j u hu => by
    obtain ⟨a', ha', hc⟩ := hy.rd.at ho
    rw [ha] at ha'; cases ha'
    exact hc j u hu
  rw [Int.toNat_natCast]
  refine ⟨fun w' => Ow ouE w' s xs, fun w' => Ow ouE w' s xs, fun w' h => h, h6, ?_⟩
  refine ixk ⟨nilS, fun w' h => hat w' h 2 _ rfl, ?_⟩
  refine ixk ⟨nilS, fun w' h => hat w' h 3 _ rfl, ?_⟩
  refine (copyNil_any w6).mono ?_
  rintro e w15 ⟨rfl, c15⟩
  refine ⟨nilS, rfl, h6.no c15, (copyNil_any w15).mono ?_⟩
  rintro e w18 ⟨rfl, c18⟩
  have h18 := (h6.no c15).no c18
  have k18 := trN (trN (trN c4 c6) c15) c18
  refine ⟨nilS, rfl, h18, ?_⟩
  have put : ∀ (j : Nat) (y : World), j < 4 → (ouC o)[j]? = some nilS.val → Ow ouE y s xs → Chg No w y → wrOk y ((a.add (k * 4)).add j) 1 ∧ ∀ z : World, z = stW y ((a.add (k * 4)).add j) 0 [nilS.val] → Ow ouE z s xs ∧ Chg No w z := fun j y hj hu hy cy => by
    have he : ouE.e o = (ouE.e o).set j nilS.val := by
      rcases (show j = 0 ∨ j = 1 ∨ j = 2 ∨ j = 3 by omega) with rfl | rfl | rfl | rfl
      · cases hu
      · cases hu
      · rfl
      · rfl
    obtain ⟨f1, f2⟩ := hy.set1 ha (k := k) (j := j) (x := o) (x' := o) (u := nilS.val) ho hj he
    have hset : xs.set k o = xs := by
      refine List.ext_getElem? fun i => ?_
      rw [List.getElem?_set]
      split
      · next h => subst h; rw [ho]
      · rfl
    rw [hset] at f2
    refine ⟨f1, fun z hz => ⟨by rw [hz]; exact f2, ?_⟩⟩
    have c : Chg (fun q => s.blk = some q) y z := by rw [hz]; exact Chg.st (S := fun q => s.blk = some q) (by rw [add_block, add_block]; exact blk_ptr ha)
    exact cy.trans c (fun _ _ h => h) (fun q hq he => by have := new q he; omega)
  obtain ⟨f1, f2⟩ := put 2 w18 (by omega) rfl h18 k18
  refine ixk ⟨f1, fun w21 hw21 => ?_⟩
  obtain ⟨h21, k21⟩ := f2 w21 hw21
  obtain ⟨g1, g2⟩ := put 3 w21 (by omega) rfl h21 k21
  refine ⟨h21, ixk ⟨g1, fun w23 hw23 => ?_⟩⟩
  obtain ⟨h23, k23⟩ := g2 w23 hw23
  rw [wr_of (by omega) (by omega)]
  exact ⟨⟨k + 1, by omega, by omega, h23, k23⟩, by show xs.length - Int.toNat ((k : Int) + 1) < xs.length - Int.toNat (k : Int); omega⟩
section
def mkC (i k : Int) : In5 := ⟨wr ((wr ((wr ((-1000 : Int) * i)) - k)) - (1 : Int)), 0, 0, 0, 0⟩
def mkX (i k : Int) : Int × Int := (wr ((wr ((wr ((-1000 : Int) * i)) - k)) - (1 : Int)), 0)
theorem markCodes_ok : MarkOk Try.prog insE mkC fn_hollowaybook_markCodes := by
  intro i f m w hi hf
  refine (hollowaybook_markCodes_lift (K := fun r w' => ∃ s : Sl, r = s.val ∧ Ow insE w' s (marks (mkC i) f m) ∧ Chg No w w' ∧ (∀ j, s.blk = some j → w.heap.size ≤ j)) ?_).mono (by rintro e w' ⟨r, rfl, s, rfl, h⟩; exact ⟨s, rfl, h⟩)
  unfold hollowaybook_markCodes_sh
  exact mark_core (K := fun r w' => ∃ s : Sl, r = s.val ∧ Ow insE w' s (marks (mkC i) f m) ∧ Chg No w w' ∧ (∀ j, s.blk = some j → w.heap.size ≤ j)) insOk (by decide) (mkC i) f m hf fun s' w' h1 h2 h3 => ⟨s', rfl, h1, h2, h3⟩
theorem markExits_ok : MarkOk Try.prog ouE mkX fn_hollowaybook_markExits := by
  intro i f m w hi hf
  refine (hollowaybook_markExits_lift (K := fun r w' => ∃ s : Sl, r = s.val ∧ Ow ouE w' s (marks (mkX i) f m) ∧ Chg No w w' ∧ (∀ j, s.blk = some j → w.heap.size ≤ j)) ?_).mono (by rintro e w' ⟨r, rfl, s, rfl, h⟩; exact ⟨s, rfl, h⟩)
  unfold hollowaybook_markExits_sh
  exact mark_core (K := fun r w' => ∃ s : Sl, r = s.val ∧ Ow ouE w' s (marks (mkX i) f m) ∧ Chg No w w' ∧ (∀ j, s.blk = some j → w.heap.size ≤ j)) ouOk (by decide) (mkX i) f m hf fun s' w' h1 h2 h3 => ⟨s', rfl, h1, h2, h3⟩
def qC (S : World → Prop) (p : Addr) (F : List Value → Prop) : Prop := ∃ n : Int, ∃ m : Int, ∃ o : Int, ∃ q : Int, ∃ r : Int, held S p (.int .i64 n) ∧ held S (p.add 1) (.int .i64 m) ∧ held S (p.add 2) (.int .i64 o) ∧ held S (p.add 3) (.int .i64 q) ∧ held S (p.add 4) (.int .i64 r) ∧ F [.int .i64 n, .int .i64 m, .int .i64 o, .int .i64 q, .int .i64 r]
theorem qC_ok (w : World) (p : Addr) (x : In5) (F : List Value → Prop) (h : ∀ (j : Nat) (u : Value), (insE.e x)[j]? = some u → w.cell? (p.add j) = some u) (hF : F (insE.e x)) : qC (Lw w) p F := by
  have h0 := h 0 _ rfl
  rw [add0] at h0
  exact ⟨_, _, _, _, _, held_Lw h0, held_Lw (h 1 _ rfl), held_Lw (h 2 _ rfl), held_Lw (h 3 _ rfl), held_Lw (h 4 _ rfl), hF⟩
def qX (S : World → Prop) (p : Addr) (F : List Value → Prop) : Prop := ∃ n : Int, ∃ m : Int, ∃ s : Sl, ∃ t : Sl, held S p (.int .i64 n) ∧ held S (p.add 1) (.int .i64 m) ∧ held S (p.add 2) s.val ∧ held S (p.add 3) t.val ∧ F [.int .i64 n, .int .i64 m, s.val, t.val]
theorem qX_ok (w : World) (p : Addr) (x : Int × Int) (F : List Value → Prop) (h : ∀ (j : Nat) (u : Value), (ouE.e x)[j]? = some u → w.cell? (p.add j) = some u) (hF : F (ouE.e x)) : qX (Lw w) p F := by
  have h0 := h 0 _ rfl
  rw [add0] at h0
  exact ⟨x.1, x.2, nilS, nilS, held_Lw h0, held_Lw (h 1 _ rfl), held_Lw (h 2 _ rfl), held_Lw (h 3 _ rfl), hF⟩
theorem slInsOk : EncOk Try.prog (slE T_sl_api_Ins) T_sl_sl_api_Ins := EncOk.of (z := .slice none 0 0) (by kernel_rfl) (by kernel_rfl) (by kernel_rfl)
theorem slOutOk : EncOk Try.prog (slE T_sl_api_Out) T_sl_sl_api_Out := EncOk.of (z := .slice none 0 0) (by kernel_rfl) (by kernel_rfl) (by kernel_rfl)
end
section
variable {w : World} {b : Nat} {A Bs : Sl} {ls was : List Sl}
theorem stillCodes_any {xss : List (List In5)} (h : KB insE T_sl_api_Ins w b 8 A Bs ls was xss) : Calls Try.prog fn_hollowaybook_Book_stillCodes #[.pointer (some ⟨b, 0, none⟩)] w fun e w' => e = .returned (.bool true) ∧ Chg No w w' := by
  refine (hollowaybook_Book_stillCodes_lift (K := fun r w' => r = .bool true ∧ Chg No w w') ?_).mono (by rintro e w' ⟨r, rfl, rfl, h⟩; exact ⟨rfl, h⟩)
  unfold hollowaybook_Book_stillCodes_sh
  exact still_core (K := fun r w' => r = .bool true ∧ Chg No w w') sameCodes_ok h.cA h.cB h.rA h.rB h.len h.lenB h.few (fun i s xs hs hx => (h.ox i s xs hs hx).1.rd) h.rd fun w' c => ⟨rfl, c⟩
theorem stillExits_any {xss : List (List (Int × Int))} (h : KB ouE T_sl_api_Out w b 10 A Bs ls was xss) : Calls Try.prog fn_hollowaybook_Book_stillExits #[.pointer (some ⟨b, 0, none⟩)] w fun e w' => e = .returned (.bool true) ∧ Chg No w w' := by
  refine (hollowaybook_Book_stillExits_lift (K := fun r w' => r = .bool true ∧ Chg No w w') ?_).mono (by rintro e w' ⟨r, rfl, rfl, h⟩; exact ⟨rfl, h⟩)
  unfold hollowaybook_Book_stillExits_sh
  exact still_core (K := fun r w' => r = .bool true ∧ Chg No w w') sameExits_ok h.cA h.cB h.rA h.rB h.len h.lenB h.few (fun i s xs hs hx => (h.ox i s xs hs hx).1.rd) h.rd fun w' c => ⟨rfl, c⟩
theorem putCodes_any {xss : List (List In5)} (h : KP insE T_sl_api_Ins w b 8 A ls xss) : Calls Try.prog fn_hollowaybook_Book_putCodes #[.pointer (some ⟨b, 0, none⟩)] w fun e w' => e = .returned (.tuple #[]) ∧ KM insE T_sl_api_Ins mkC w' b 8 A ls ∧ Chg (blksOf ls) w w' := by
  refine (hollowaybook_Book_putCodes_lift (K := fun r w' => r = .tuple #[] ∧ KM insE T_sl_api_Ins mkC w' b 8 A ls ∧ Chg (blksOf ls) w w') ?_).mono (by rintro e w' ⟨r, rfl, rfl, h⟩; exact ⟨rfl, h⟩)
  unfold hollowaybook_Book_putCodes_sh
  exact put_core (Q := qC) (mk := mkC) (K := fun r w' => r = .tuple #[] ∧ KM insE T_sl_api_Ins mkC w' b 8 A ls ∧ Chg (blksOf ls) w w') qC_ok (Or.inr markCodes_ok) h.cA h.rA h.len h.few h.ox h.dis h.nb h.nA fun w' hm c => ⟨rfl, h.marked c hm, c⟩
theorem putExits_any {xss : List (List (Int × Int))} (h : KP ouE T_sl_api_Out w b 10 A ls xss) : Calls Try.prog fn_hollowaybook_Book_putExits #[.pointer (some ⟨b, 0, none⟩)] w fun e w' => e = .returned (.tuple #[]) ∧ KM ouE T_sl_api_Out mkX w' b 10 A ls ∧ Chg (blksOf ls) w w' := by
  refine (hollowaybook_Book_putExits_lift (K := fun r w' => r = .tuple #[] ∧ KM ouE T_sl_api_Out mkX w' b 10 A ls ∧ Chg (blksOf ls) w w') ?_).mono (by rintro e w' ⟨r, rfl, rfl, h⟩; exact ⟨rfl, h⟩)
  unfold hollowaybook_Book_putExits_sh
  exact put_core (Q := qX) (mk := mkX) (K := fun r w' => r = .tuple #[] ∧ KM ouE T_sl_api_Out mkX w' b 10 A ls ∧ Chg (blksOf ls) w w') qX_ok (Or.inr markExits_ok) h.cA h.rA h.len h.few h.ox h.dis h.nb h.nA fun w' hm c => ⟨rfl, h.marked c hm, c⟩
theorem growCodes_any (h : KM insE T_sl_api_Ins mkC w b 8 A ls) : Calls Try.prog fn_hollowaybook_Book_growCodes #[.pointer (some ⟨b, 0, none⟩)] w fun e w' => ∃ out : Sl, e = .returned out.val ∧ GrX insE T_sl_api_Ins mkC w' w.heap.size ls out ∧ Marked' insE mkC w' ls ∧ Chg (blksOf ls) w w' := by
  refine (hollowaybook_Book_growCodes_lift (K := fun r w' => ∃ out : Sl, r = out.val ∧ GrX insE T_sl_api_Ins mkC w' w.heap.size ls out ∧ Marked' insE mkC w' ls ∧ Chg (blksOf ls) w w') ?_).mono (by rintro e w' ⟨r, rfl, s, rfl, h⟩; exact ⟨s, rfl, h⟩)
  unfold hollowaybook_Book_growCodes_sh
  exact growx_core (mk := mkC) (K := fun r w' => ∃ out : Sl, r = out.val ∧ GrX insE T_sl_api_Ins mkC w' w.heap.size ls out ∧ Marked' insE mkC w' ls ∧ Chg (blksOf ls) w w') insOk slInsOk (by decide) (Or.inr markCodes_ok) h.cA h.rA h.few h.ox h.dis h.nb h.nA fun out outs w' h1 h2 h3 h4 h5 h6 h7 => ⟨out, rfl, ⟨⟨outs, h1, h2, fun i t ht => ⟨h3 i t ht, fun k => h5 i t k ht⟩⟩, h4⟩, h6, h7⟩
theorem growExits_any (h : KM ouE T_sl_api_Out mkX w b 10 A ls) : Calls Try.prog fn_hollowaybook_Book_growExits #[.pointer (some ⟨b, 0, none⟩)] w fun e w' => ∃ out : Sl, e = .returned out.val ∧ GrX ouE T_sl_api_Out mkX w' w.heap.size ls out ∧ Marked' ouE mkX w' ls ∧ Chg (blksOf ls) w w' := by
  refine (hollowaybook_Book_growExits_lift (K := fun r w' => ∃ out : Sl, r = out.val ∧ GrX ouE T_sl_api_Out mkX w' w.heap.size ls out ∧ Marked' ouE mkX w' ls ∧ Chg (blksOf ls) w w') ?_).mono (by rintro e w' ⟨r, rfl, s, rfl, h⟩; exact ⟨s, rfl, h⟩)
  unfold hollowaybook_Book_growExits_sh
  exact growx_core (mk := mkX) (K := fun r w' => ∃ out : Sl, r = out.val ∧ GrX ouE T_sl_api_Out mkX w' w.heap.size ls out ∧ Marked' ouE mkX w' ls ∧ Chg (blksOf ls) w w') ouOk slOutOk (by decide) (Or.inr markExits_ok) h.cA h.rA h.few h.ox h.dis h.nb h.nA fun out outs w' h1 h2 h3 h4 h5 h6 h7 => ⟨out, rfl, ⟨⟨outs, h1, h2, fun i t ht => ⟨h3 i t ht, fun k => h5 i t k ht⟩⟩, h4⟩, h6, h7⟩
theorem markedCodes_any {n : Nat} (hn : n ≤ 100000) {out : Sl} (h : Grown' insE T_sl_api_Ins mkC w out n) : Calls Try.prog fn_hollowaybook_markedCodes #[out.val] w fun e w' => e = .returned (.bool true) ∧ Chg No w w' := by
  refine (hollowaybook_markedCodes_lift (K := fun r w' => r = .bool true ∧ Chg No w w') ?_).mono (by rintro e w' ⟨r, rfl, rfl, h⟩; exact ⟨rfl, h⟩)
  unfold hollowaybook_markedCodes_sh
  obtain ⟨outs, h1, h2, h3⟩ := h
  exact marked_core (mk := mkC) (K := fun r w' => r = .bool true ∧ Chg No w w') sameCodes_ok markCodes_ok h1 (by omega) (fun i s hs => ⟨by have := (h3 i s hs).1; omega, (h3 i s hs).2⟩) fun w' c => ⟨rfl, c⟩
theorem markedExits_any {n : Nat} (hn : n ≤ 100000) {out : Sl} (h : Grown' ouE T_sl_api_Out mkX w out n) : Calls Try.prog fn_hollowaybook_markedExits #[out.val] w fun e w' => e = .returned (.bool true) ∧ Chg No w w' := by
  refine (hollowaybook_markedExits_lift (K := fun r w' => r = .bool true ∧ Chg No w w') ?_).mono (by rintro e w' ⟨r, rfl, rfl, h⟩; exact ⟨rfl, h⟩)
  unfold hollowaybook_markedExits_sh
  obtain ⟨outs, h1, h2, h3⟩ := h
  exact marked_core (mk := mkX) (K := fun r w' => r = .bool true ∧ Chg No w w') sameExits_ok markExits_ok h1 (by omega) (fun i s hs => ⟨by have := (h3 i s hs).1; omega, (h3 i s hs).2⟩) fun w' c => ⟨rfl, c⟩
theorem putIntsX_any {xss : List (List Int)} (h : KP intE T_sl_int w b 2 A ls xss) : Calls Try.prog fn_hollowaybook_Book_putInts #[.pointer (some ⟨b, 0, none⟩)] w fun e w' => e = .returned (.tuple #[]) ∧ KM intE T_sl_int mkI w' b 2 A ls ∧ Chg (blksOf ls) w w' := by
  refine (hollowaybook_Book_putInts_lift (K := fun r w' => r = .tuple #[] ∧ KM intE T_sl_int mkI w' b 2 A ls ∧ Chg (blksOf ls) w w') ?_).mono (by rintro e w' ⟨r, rfl, rfl, h⟩; exact ⟨rfl, h⟩)
  unfold hollowaybook_Book_putInts_sh
  exact put_core (Q := qI) (mk := mkI) (K := fun r w' => r = .tuple #[] ∧ KM intE T_sl_int mkI w' b 2 A ls ∧ Chg (blksOf ls) w w') qI_ok (Or.inr markInts_ok) h.cA h.rA h.len h.few h.ox h.dis h.nb h.nA fun w' hm c => ⟨rfl, h.marked c hm, c⟩
theorem growIntsX_any (h : KM intE T_sl_int mkI w b 2 A ls) : Calls Try.prog fn_hollowaybook_Book_growInts #[.pointer (some ⟨b, 0, none⟩)] w fun e w' => ∃ out : Sl, e = .returned out.val ∧ GrX intE T_sl_int mkI w' w.heap.size ls out ∧ Marked' intE mkI w' ls ∧ Chg (blksOf ls) w w' := by
  refine (hollowaybook_Book_growInts_lift (K := fun r w' => ∃ out : Sl, r = out.val ∧ GrX intE T_sl_int mkI w' w.heap.size ls out ∧ Marked' intE mkI w' ls ∧ Chg (blksOf ls) w w') ?_).mono (by rintro e w' ⟨r, rfl, s, rfl, h⟩; exact ⟨s, rfl, h⟩)
  unfold hollowaybook_Book_growInts_sh
  exact growx_core (mk := mkI) (K := fun r w' => ∃ out : Sl, r = out.val ∧ GrX intE T_sl_int mkI w' w.heap.size ls out ∧ Marked' intE mkI w' ls ∧ Chg (blksOf ls) w w') intOk slIntOk (by decide) (Or.inr markInts_ok) h.cA h.rA h.few h.ox h.dis h.nb h.nA fun out outs w' h1 h2 h3 h4 h5 h6 h7 => ⟨out, rfl, ⟨⟨outs, h1, h2, fun i t ht => ⟨h3 i t ht, fun k => h5 i t k ht⟩⟩, h4⟩, h6, h7⟩
end
/-- A book of numbers (cells 2, 3), instructions (8, 9), exits (10, 11). -/
def bookV (A1 B1 A2 B2 A3 B3 : Sl) : List Value := [nilS.val, nilS.val, A1.val, B1.val, nilS.val, nilS.val, nilS.val, nilS.val, A2.val, B2.val, A3.val, B3.val]
structure BkZ (w : World) (b : Nat) (A1 B1 : Sl) (l1 s1 : List Sl) (x1 : List (List Int)) (A2 B2 : Sl) (l2 s2 : List Sl) (x2 : List (List In5)) (A3 B3 : Sl) (l3 s3 : List Sl) (x3 : List (List (Int × Int))) (D1 D2 D3 : Nat → Prop) : Prop where
  ob : Ob w b (bookV A1 B1 A2 B2 A3 B3) T_hollowaybook_Book
  k1 : KO D1 intE T_sl_int w b A1 B1 l1 s1 x1
  k2 : KO D2 insE T_sl_api_Ins w b A2 B2 l2 s2 x2
  k3 : KO D3 ouE T_sl_api_Out w b A3 B3 l3 s3 x3
  n1 : l1.length ≤ 250
  n2 : l2.length ≤ 250
  n3 : l3.length ≤ 250
  d12 : ∀ k, D1 k → ¬ D2 k
  d13 : ∀ k, D1 k → ¬ D3 k
  d23 : ∀ k, D2 k → ¬ D3 k
  nb : ¬ D1 b ∧ ¬ D2 b ∧ ¬ D3 b
  lo : ∀ k, D1 k ∨ D2 k ∨ D3 k → k < w.heap.size
def BkV (D P : Nat → Prop) (w : World) (b : Nat) : Prop := ∃ A1 B1 l1 s1 x1 A2 B2 l2 s2 x2 A3 B3 l3 s3 x3 D1 D2 D3, BkZ w b A1 B1 l1 s1 x1 A2 B2 l2 s2 x2 A3 B3 l3 s3 x3 D1 D2 D3 ∧ (D b ∧ ∀ k, D1 k ∨ D2 k ∨ D3 k → D k) ∧ ∀ k, k = b ∨ A1.blk = some k ∨ B1.blk = some k ∨ A2.blk = some k ∨ B2.blk = some k ∨ A3.blk = some k ∨ B3.blk = some k → P k
theorem BkV.chg {D P S : Nat → Prop} {w w' : World} {b : Nat} (h : BkV D P w b) (c : Chg S w w') (hS : ∀ k, D k → ¬ S k) : BkV D P w' b := by
  obtain ⟨A1, B1, l1, s1, x1, A2, B2, l2, s2, x2, A3, B3, l3, s3, x3, D1, D2, D3, h, ⟨hb, hD⟩, hP⟩ := h
  have z := c.size
  exact ⟨A1, B1, l1, s1, x1, A2, B2, l2, s2, x2, A3, B3, l3, s3, x3, D1, D2, D3, ⟨h.ob.chg c (hS _ hb), h.k1.chg c (fun k e => hS _ (hD k (Or.inl e))), h.k2.chg c (fun k e => hS _ (hD k (Or.inr (Or.inl e)))), h.k3.chg c (fun k e => hS _ (hD k (Or.inr (Or.inr e)))), h.n1, h.n2, h.n3, h.d12, h.d13, h.d23, h.nb, fun k e => by have := h.lo k e; omega⟩, ⟨hb, hD⟩, hP⟩
theorem BkV.no {D P : Nat → Prop} {w w' : World} {b : Nat} (h : BkV D P w b) (c : Chg No w w') : BkV D P w' b := h.chg c (fun _ _ h => h)
theorem BkZ.plt {w : World} {b : Nat} {A1 B1 : Sl} {l1 s1 : List Sl} {x1 : List (List Int)} {A2 B2 : Sl} {l2 s2 : List Sl} {x2 : List (List In5)} {A3 B3 : Sl} {l3 s3 : List Sl} {x3 : List (List (Int × Int))} {D1 D2 D3 : Nat → Prop} (h : BkZ w b A1 B1 l1 s1 x1 A2 B2 l2 s2 x2 A3 B3 l3 s3 x3 D1 D2 D3) : ∀ k, k = b ∨ A1.blk = some k ∨ B1.blk = some k ∨ A2.blk = some k ∨ B2.blk = some k ∨ A3.blk = some k ∨ B3.blk = some k → k < w.heap.size := fun k e => by
  rcases e with e | e | e | e | e | e | e
  · rw [e]; exact h.ob.lt
  · exact h.k1.oA.lt e
  · exact h.k1.oB.lt e
  · exact h.k2.oA.lt e
  · exact h.k2.oB.lt e
  · exact h.k3.oA.lt e
  · exact h.k3.oB.lt e
theorem BkV.nar {D P : Nat → Prop} {w : World} {b : Nat} (h : BkV D P w b) : BkV (fun k => D k ∧ k < w.heap.size) (fun k => P k ∧ k < w.heap.size) w b := by
  obtain ⟨A1, B1, l1, s1, x1, A2, B2, l2, s2, x2, A3, B3, l3, s3, x3, D1, D2, D3, h, ⟨hb, hD⟩, hP⟩ := h
  exact ⟨A1, B1, l1, s1, x1, A2, B2, l2, s2, x2, A3, B3, l3, s3, x3, D1, D2, D3, h, ⟨⟨hb, h.ob.lt⟩, fun k e => ⟨hD k e, h.lo k e⟩⟩, fun k e => ⟨hP k e, h.plt k e⟩⟩
theorem BkV.wid {D D' P P' : Nat → Prop} {w : World} {b : Nat} (h : BkV D P w b) (hd : ∀ k, D k → D' k) (hp : ∀ k, P k → P' k) : BkV D' P' w b := by
  obtain ⟨A1, B1, l1, s1, x1, A2, B2, l2, s2, x2, A3, B3, l3, s3, x3, D1, D2, D3, h, ⟨hb, hD⟩, hP⟩ := h
  exact ⟨A1, B1, l1, s1, x1, A2, B2, l2, s2, x2, A3, B3, l3, s3, x3, D1, D2, D3, h, ⟨hd _ hb, fun k e => hd _ (hD k e)⟩, fun k e => hp _ (hP k e)⟩
theorem BkV.empty {D P : Nat → Prop} {w : World} {b : Nat} (h : Ob w b (bookV nilS nilS nilS nilS nilS nilS) T_hollowaybook_Book) (hb : D b) (hp : P b) : BkV D P w b :=
  ⟨nilS, nilS, [], [], [], nilS, nilS, [], [], [], nilS, nilS, [], [], [], No, No, No, ⟨h, KO.empty _ _ _ _ _, KO.empty _ _ _ _ _, KO.empty _ _ _ _ _, Nat.zero_le _, Nat.zero_le _, Nat.zero_le _, fun _ _ h => h, fun _ _ h => h, fun _ _ h => h, ⟨fun h => h, fun h => h, fun h => h⟩, fun k e => by rcases e with e | e | e <;> exact e.elim⟩, ⟨hb, fun k e => by rcases e with e | e | e <;> exact e.elim⟩, fun k e => by
    rcases e with e | e | e | e | e | e | e
    · rw [e]; exact hp
    all_goals cases e⟩
theorem BkV.reset {D P X : Nat → Prop} {w w' : World} {b : Nat} (h : BkV D P w b) (c : Chg X w w') (hX : ∀ k, D k → ¬ X k) : BkV (fun k => (D k ∧ k < w.heap.size) ∨ w'.heap.size ≤ k) (fun k => (P k ∧ k < w.heap.size) ∨ w'.heap.size ≤ k) w' b :=
  (h.nar.chg c (fun k hk hx => hX k hk.1 hx)).wid (fun _ h => Or.inl h) (fun _ h => Or.inl h)
/-- One more list of a kind. -/
theorem BkV.ints {D P : Nat → Prop} {w : World} {b : Nat} (h : BkV D P w b) (hD : ∀ k, w.heap.size ≤ k → D k) (hp : ∀ k, w.heap.size ≤ k → P k) {l : Sl} {xs : List Int} (hx : Ox intE w l xs) (hxs : xs.length ≤ 1000000) {D' : Nat → Prop} (hD' : ∀ k, D k → D' k) (hl : ∀ k, l.blk = some k → D' k ∧ ¬ D k) :
    Calls Try.prog fn_hollowaybook_Book_Ints #[.pointer (some ⟨b, 0, none⟩), l.val] w fun e w' => e = .returned (.tuple #[]) ∧ BkV D' P w' b ∧ Chg P w w' := by
  refine (hollowaybook_Book_Ints_lift (K := fun r w' => r = .tuple #[] ∧ BkV D' P w' b ∧ Chg P w w') ?_).mono (by rintro e w' ⟨r, rfl, rfl, h⟩; exact ⟨rfl, h⟩)
  unfold hollowaybook_Book_Ints_sh
  obtain ⟨A1, B1, l1, s1, x1, A2, B2, l2, s2, x2, A3, B3, l3, s3, x3, D1, D2, D3, h, ⟨hb, hDD⟩, hPP⟩ := h
  have hw : KO (fun k => D1 k ∨ w.heap.size ≤ k ∨ l.blk = some k) intE T_sl_int w b A1 B1 l1 s1 x1 := h.k1.wid fun k e => Or.inl e
  have em : ∀ k, D1 k → D k := fun k e => hDD k (Or.inl e)
  have hll : ∀ k, l.blk = some k → (D1 k ∨ w.heap.size ≤ k ∨ l.blk = some k) ∧ k ≠ b ∧ A1.blk ≠ some k ∧ B1.blk ≠ some k ∧ ¬ blksOf l1 k ∧ ¬ blksOf s1 k := fun k hlk => by
    obtain ⟨h1, h2⟩ := hl k hlk
    exact ⟨Or.inr (Or.inr hlk), fun e => h2 (e ▸ hb), fun e => h2 (em k (h.k1.dA k e).1), fun e => h2 (em k (h.k1.dB k e).1), fun e => h2 (em k (h.k1.dl k e).1), fun e => h2 (em k (h.k1.dw k e).1)⟩
  have av : ∀ {k : Nat}, (k = b ∨ A1.blk = some k ∨ B1.blk = some k) → k = b ∨ D1 k := fun e => by
    rcases e with e | e | e
    · exact Or.inl e
    · exact Or.inr (h.k1.dA _ e).1
    · exact Or.inr (h.k1.dB _ e).1
  refine addx_core (K := fun r w' => r = .tuple #[] ∧ BkV D' P w' b ∧ Chg P w w') (TB := T_hollowaybook_Book) (cs := bookV A1 B1 A2 B2 A3 B3) slIntOk h.ob rfl rfl hw.half (fun k e => Or.inr (Or.inl e)) hx (by omega) hll (G := fun s' w10 w14 => Ow intE w14 s' xs) (fun w10 c10 => ?_)
    (fun _ => ⟨rfl, ⟨A1, B1, l1, s1, x1, A2, B2, l2, s2, x2, A3, B3, l3, s3, x3, D1, D2, D3, h, ⟨hD' b hb, fun k e => hD' _ (hDD k e)⟩, hPP⟩, Chg.refl _ _⟩)
    (fun hlt A' B' c' w10 w14 w' o' k' hG c10 c14 c1420 hbk hA10 hAn hB14 ch => ?_)
  · refine (copyInts_any l xs w10 (hx.chg c10 (fun k hk he => ?_)).rd (by omega)).mono ?_
    · rcases he with he | he
      · exact (hll k hk).2.1 he
      · exact (hll k hk).2.2.1 he
    · rintro e w' ⟨s', rfl, h1, h2, h3⟩
      exact ⟨s', rfl, h1, fun k hk => ⟨h3 k hk, h1.lt hk⟩, h2⟩
  have z := ch.size
  have z10 := c10.size
  have kk : KO (fun k => D1 k ∨ w.heap.size ≤ k ∨ l.blk = some k) intE T_sl_int w' b A' B' (l1 ++ [l]) (s1 ++ [c']) (x1 ++ [xs]) := by
    refine ⟨k'.oA, k'.oB, k'.len, k'.lenB, k'.ox, fun i s ys hs hy => ?_, k'.dis, k'.dA, k'.dB, k'.dl, k'.dw⟩
    rcases app_at hs with ⟨h5, h6⟩ | ⟨h5, rfl⟩
    · rw [List.getElem?_append_left (by have := h.k1.lenB; omega)] at hy
      refine (h.k1.rd i s ys h6 hy).chg ch (fun m hm he => ?_)
      have h9 : blksOf s1 m := ⟨i, s, h6, hm⟩
      rcases he with he | he | he
      · exact (h.k1.dw m h9).2.1 he
      · exact (h.k1.dA m he).2.2.2.2 h9
      · exact (h.k1.dB m he).2.2.2 h9
    · rcases app_at hy with ⟨h6, _⟩ | ⟨_, rfl⟩
      · have := h.k1.lenB; omega
      · refine (hG.chg c1420 (fun m hm he => ?_)).rd
        have hm' := hbk m hm
        rcases he with he | he
        · have := h.ob.lt; omega
        · have := h.k1.oB.lt he; omega
  refine ⟨rfl, ⟨A', B', l1 ++ [l], s1 ++ [c'], x1 ++ [xs], A2, B2, l2, s2, x2, A3, B3, l3, s3, x3, _, D2, D3, ⟨o', kk.nar, h.k2.chg ch (fun k e he => ?_), h.k3.chg ch (fun k e he => ?_), by rw [List.length_append]; show l1.length + 1 ≤ 250; omega, h.n2, h.n3, fun k e f => ?_, fun k e f => ?_, h.d23, ⟨fun e => ?_, h.nb.2.1, h.nb.2.2⟩, fun k e => ?_⟩, ⟨hD' b hb, fun k e => ?_⟩, fun k e => ?_⟩, ch.mono (fun k _ e => ?_)⟩
  · rcases av he with e' | e'
    · subst e'; exact h.nb.2.1 e
    · exact h.d12 k e' e
  · rcases av he with e' | e'
    · subst e'; exact h.nb.2.2 e
    · exact h.d13 k e' e
  · rcases e.1 with e | e | e
    · exact h.d12 k e f
    · have := h.lo k (Or.inr (Or.inl f)); omega
    · exact (hl k e).2 (hDD k (Or.inr (Or.inl f)))
  · rcases e.1 with e | e | e
    · exact h.d13 k e f
    · have := h.lo k (Or.inr (Or.inr f)); omega
    · exact (hl k e).2 (hDD k (Or.inr (Or.inr f)))
  · rcases e.1 with e | e | e
    · exact h.nb.1 e
    · have := h.ob.lt; omega
    · exact (hl _ e).2 hb
  · rcases e with e | e | e
    · exact e.2
    · have := h.lo k (Or.inr (Or.inl e)); omega
    · have := h.lo k (Or.inr (Or.inr e)); omega
  · rcases e with e | e | e
    · rcases e.1 with e | e | e
      · exact hD' _ (em k e)
      · exact hD' _ (hD k e)
      · exact (hl k e).1
    · exact hD' _ (hDD k (Or.inr (Or.inl e)))
    · exact hD' _ (hDD k (Or.inr (Or.inr e)))
  · rcases e with e | e | e | e | e | e | e
    · exact hPP k (Or.inl e)
    · rcases hAn k e with e | e
      · exact hPP k (Or.inr (Or.inl e))
      · exact hp k e
    · rcases hB14 k e with e | e
      · exact hPP k (Or.inr (Or.inr (Or.inl e)))
      · exact hp k (by have := c14.size; omega)
    · exact hPP k (Or.inr (Or.inr (Or.inr (Or.inl e))))
    · exact hPP k (Or.inr (Or.inr (Or.inr (Or.inr (Or.inl e)))))
    · exact hPP k (Or.inr (Or.inr (Or.inr (Or.inr (Or.inr (Or.inl e))))))
    · exact hPP k (Or.inr (Or.inr (Or.inr (Or.inr (Or.inr (Or.inr e))))))
  · rcases e with e | e | e
    · exact hPP k (Or.inl e)
    · exact hPP k (Or.inr (Or.inl e))
    · exact hPP k (Or.inr (Or.inr (Or.inl e)))
/-- One more list of a kind. -/
theorem BkV.codes {D P : Nat → Prop} {w : World} {b : Nat} (h : BkV D P w b) (hD : ∀ k, w.heap.size ≤ k → D k) (hp : ∀ k, w.heap.size ≤ k → P k) {l : Sl} {xs : List In5} (hx : Ox insE w l xs) (hxs : xs.length ≤ 1000000) {D' : Nat → Prop} (hD' : ∀ k, D k → D' k) (hl : ∀ k, l.blk = some k → D' k ∧ ¬ D k) :
    Calls Try.prog fn_hollowaybook_Book_Codes #[.pointer (some ⟨b, 0, none⟩), l.val] w fun e w' => e = .returned (.tuple #[]) ∧ BkV D' P w' b ∧ Chg P w w' := by
  refine (hollowaybook_Book_Codes_lift (K := fun r w' => r = .tuple #[] ∧ BkV D' P w' b ∧ Chg P w w') ?_).mono (by rintro e w' ⟨r, rfl, rfl, h⟩; exact ⟨rfl, h⟩)
  unfold hollowaybook_Book_Codes_sh
  obtain ⟨A1, B1, l1, s1, x1, A2, B2, l2, s2, x2, A3, B3, l3, s3, x3, D1, D2, D3, h, ⟨hb, hDD⟩, hPP⟩ := h
  have hw : KO (fun k => D2 k ∨ w.heap.size ≤ k ∨ l.blk = some k) insE T_sl_api_Ins w b A2 B2 l2 s2 x2 := h.k2.wid fun k e => Or.inl e
  have em : ∀ k, D2 k → D k := fun k e => hDD k (Or.inr (Or.inl e))
  have hll : ∀ k, l.blk = some k → (D2 k ∨ w.heap.size ≤ k ∨ l.blk = some k) ∧ k ≠ b ∧ A2.blk ≠ some k ∧ B2.blk ≠ some k ∧ ¬ blksOf l2 k ∧ ¬ blksOf s2 k := fun k hlk => by
    obtain ⟨h1, h2⟩ := hl k hlk
    exact ⟨Or.inr (Or.inr hlk), fun e => h2 (e ▸ hb), fun e => h2 (em k (h.k2.dA k e).1), fun e => h2 (em k (h.k2.dB k e).1), fun e => h2 (em k (h.k2.dl k e).1), fun e => h2 (em k (h.k2.dw k e).1)⟩
  have av : ∀ {k : Nat}, (k = b ∨ A2.blk = some k ∨ B2.blk = some k) → k = b ∨ D2 k := fun e => by
    rcases e with e | e | e
    · exact Or.inl e
    · exact Or.inr (h.k2.dA _ e).1
    · exact Or.inr (h.k2.dB _ e).1
  refine addx_core (K := fun r w' => r = .tuple #[] ∧ BkV D' P w' b ∧ Chg P w w') (TB := T_hollowaybook_Book) (cs := bookV A1 B1 A2 B2 A3 B3) slInsOk h.ob rfl rfl hw.half (fun k e => Or.inr (Or.inl e)) hx (by omega) hll (G := fun s' w10 w14 => Ow insE w14 s' xs) (fun w10 c10 => ?_)
    (fun _ => ⟨rfl, ⟨A1, B1, l1, s1, x1, A2, B2, l2, s2, x2, A3, B3, l3, s3, x3, D1, D2, D3, h, ⟨hD' b hb, fun k e => hD' _ (hDD k e)⟩, hPP⟩, Chg.refl _ _⟩)
    (fun hlt A' B' c' w10 w14 w' o' k' hG c10 c14 c1420 hbk hA10 hAn hB14 ch => ?_)
  · refine (copyCodes_any l xs w10 (hx.chg c10 (fun k hk he => ?_)).rd (by omega)).mono ?_
    · rcases he with he | he
      · exact (hll k hk).2.1 he
      · exact (hll k hk).2.2.1 he
    · rintro e w' ⟨s', rfl, h1, h2, h3⟩
      exact ⟨s', rfl, h1, fun k hk => ⟨h3 k hk, h1.lt hk⟩, h2⟩
  have z := ch.size
  have z10 := c10.size
  have kk : KO (fun k => D2 k ∨ w.heap.size ≤ k ∨ l.blk = some k) insE T_sl_api_Ins w' b A' B' (l2 ++ [l]) (s2 ++ [c']) (x2 ++ [xs]) := by
    refine ⟨k'.oA, k'.oB, k'.len, k'.lenB, k'.ox, fun i s ys hs hy => ?_, k'.dis, k'.dA, k'.dB, k'.dl, k'.dw⟩
    rcases app_at hs with ⟨h5, h6⟩ | ⟨h5, rfl⟩
    · rw [List.getElem?_append_left (by have := h.k2.lenB; omega)] at hy
      refine (h.k2.rd i s ys h6 hy).chg ch (fun m hm he => ?_)
      have h9 : blksOf s2 m := ⟨i, s, h6, hm⟩
      rcases he with he | he | he
      · exact (h.k2.dw m h9).2.1 he
      · exact (h.k2.dA m he).2.2.2.2 h9
      · exact (h.k2.dB m he).2.2.2 h9
    · rcases app_at hy with ⟨h6, _⟩ | ⟨_, rfl⟩
      · have := h.k2.lenB; omega
      · refine (hG.chg c1420 (fun m hm he => ?_)).rd
        have hm' := hbk m hm
        rcases he with he | he
        · have := h.ob.lt; omega
        · have := h.k2.oB.lt he; omega
  refine ⟨rfl, ⟨A1, B1, l1, s1, x1, A', B', l2 ++ [l], s2 ++ [c'], x2 ++ [xs], A3, B3, l3, s3, x3, D1, _, D3, ⟨o', h.k1.chg ch (fun k e he => ?_), kk.nar, h.k3.chg ch (fun k e he => ?_), h.n1, by rw [List.length_append]; show l2.length + 1 ≤ 250; omega, h.n3, fun k f e => ?_, h.d13, fun k e f => ?_, ⟨h.nb.1, fun e => ?_, h.nb.2.2⟩, fun k e => ?_⟩, ⟨hD' b hb, fun k e => ?_⟩, fun k e => ?_⟩, ch.mono (fun k _ e => ?_)⟩
  · rcases av he with e' | e'
    · subst e'; exact h.nb.1 e
    · exact h.d12 k e e'
  · rcases av he with e' | e'
    · subst e'; exact h.nb.2.2 e
    · exact h.d23 k e' e
  · rcases e.1 with e | e | e
    · exact h.d12 k f e
    · have := h.lo k (Or.inl f); omega
    · exact (hl k e).2 (hDD k (Or.inl f))
  · rcases e.1 with e | e | e
    · exact h.d23 k e f
    · have := h.lo k (Or.inr (Or.inr f)); omega
    · exact (hl k e).2 (hDD k (Or.inr (Or.inr f)))
  · rcases e.1 with e | e | e
    · exact h.nb.2.1 e
    · have := h.ob.lt; omega
    · exact (hl _ e).2 hb
  · rcases e with e | e | e
    · have := h.lo k (Or.inl e); omega
    · exact e.2
    · have := h.lo k (Or.inr (Or.inr e)); omega
  · rcases e with e | e | e
    · exact hD' _ (hDD k (Or.inl e))
    · rcases e.1 with e | e | e
      · exact hD' _ (em k e)
      · exact hD' _ (hD k e)
      · exact (hl k e).1
    · exact hD' _ (hDD k (Or.inr (Or.inr e)))
  · rcases e with e | e | e | e | e | e | e
    · exact hPP k (Or.inl e)
    · exact hPP k (Or.inr (Or.inl e))
    · exact hPP k (Or.inr (Or.inr (Or.inl e)))
    · rcases hAn k e with e | e
      · exact hPP k (Or.inr (Or.inr (Or.inr (Or.inl e))))
      · exact hp k e
    · rcases hB14 k e with e | e
      · exact hPP k (Or.inr (Or.inr (Or.inr (Or.inr (Or.inl e)))))
      · exact hp k (by have := c14.size; omega)
    · exact hPP k (Or.inr (Or.inr (Or.inr (Or.inr (Or.inr (Or.inl e))))))
    · exact hPP k (Or.inr (Or.inr (Or.inr (Or.inr (Or.inr (Or.inr e))))))
  · rcases e with e | e | e
    · exact hPP k (Or.inl e)
    · exact hPP k (Or.inr (Or.inr (Or.inr (Or.inl e))))
    · exact hPP k (Or.inr (Or.inr (Or.inr (Or.inr (Or.inl e)))))
/-- One more list of a kind. -/
theorem BkV.exits {D P : Nat → Prop} {w : World} {b : Nat} (h : BkV D P w b) (hD : ∀ k, w.heap.size ≤ k → D k) (hp : ∀ k, w.heap.size ≤ k → P k) {l : Sl} {xs : List (Int × Int)} (hx : Ox ouE w l xs) (hxs : xs.length ≤ 1000000) {D' : Nat → Prop} (hD' : ∀ k, D k → D' k) (hl : ∀ k, l.blk = some k → D' k ∧ ¬ D k) :
    Calls Try.prog fn_hollowaybook_Book_Exits #[.pointer (some ⟨b, 0, none⟩), l.val] w fun e w' => e = .returned (.tuple #[]) ∧ BkV D' P w' b ∧ Chg P w w' := by
  refine (hollowaybook_Book_Exits_lift (K := fun r w' => r = .tuple #[] ∧ BkV D' P w' b ∧ Chg P w w') ?_).mono (by rintro e w' ⟨r, rfl, rfl, h⟩; exact ⟨rfl, h⟩)
  unfold hollowaybook_Book_Exits_sh
  obtain ⟨A1, B1, l1, s1, x1, A2, B2, l2, s2, x2, A3, B3, l3, s3, x3, D1, D2, D3, h, ⟨hb, hDD⟩, hPP⟩ := h
  have hw : KO (fun k => D3 k ∨ w.heap.size ≤ k ∨ l.blk = some k) ouE T_sl_api_Out w b A3 B3 l3 s3 x3 := h.k3.wid fun k e => Or.inl e
  have em : ∀ k, D3 k → D k := fun k e => hDD k (Or.inr (Or.inr e))
  have hll : ∀ k, l.blk = some k → (D3 k ∨ w.heap.size ≤ k ∨ l.blk = some k) ∧ k ≠ b ∧ A3.blk ≠ some k ∧ B3.blk ≠ some k ∧ ¬ blksOf l3 k ∧ ¬ blksOf s3 k := fun k hlk => by
    obtain ⟨h1, h2⟩ := hl k hlk
    exact ⟨Or.inr (Or.inr hlk), fun e => h2 (e ▸ hb), fun e => h2 (em k (h.k3.dA k e).1), fun e => h2 (em k (h.k3.dB k e).1), fun e => h2 (em k (h.k3.dl k e).1), fun e => h2 (em k (h.k3.dw k e).1)⟩
  have av : ∀ {k : Nat}, (k = b ∨ A3.blk = some k ∨ B3.blk = some k) → k = b ∨ D3 k := fun e => by
    rcases e with e | e | e
    · exact Or.inl e
    · exact Or.inr (h.k3.dA _ e).1
    · exact Or.inr (h.k3.dB _ e).1
  refine addx_core (K := fun r w' => r = .tuple #[] ∧ BkV D' P w' b ∧ Chg P w w') (TB := T_hollowaybook_Book) (cs := bookV A1 B1 A2 B2 A3 B3) slOutOk h.ob rfl rfl hw.half (fun k e => Or.inr (Or.inl e)) hx (by omega) hll (G := fun s' w10 w14 => Ow ouE w14 s' xs) (fun w10 c10 => ?_)
    (fun _ => ⟨rfl, ⟨A1, B1, l1, s1, x1, A2, B2, l2, s2, x2, A3, B3, l3, s3, x3, D1, D2, D3, h, ⟨hD' b hb, fun k e => hD' _ (hDD k e)⟩, hPP⟩, Chg.refl _ _⟩)
    (fun hlt A' B' c' w10 w14 w' o' k' hG c10 c14 c1420 hbk hA10 hAn hB14 ch => ?_)
  · refine (copyExits_any l xs w10 (hx.chg c10 (fun k hk he => ?_)).rd (by omega)).mono ?_
    · rcases he with he | he
      · exact (hll k hk).2.1 he
      · exact (hll k hk).2.2.1 he
    · rintro e w' ⟨s', rfl, h1, h2, h3⟩
      exact ⟨s', rfl, h1, fun k hk => ⟨h3 k hk, h1.lt hk⟩, h2⟩
  have z := ch.size
  have z10 := c10.size
  have kk : KO (fun k => D3 k ∨ w.heap.size ≤ k ∨ l.blk = some k) ouE T_sl_api_Out w' b A' B' (l3 ++ [l]) (s3 ++ [c']) (x3 ++ [xs]) := by
    refine ⟨k'.oA, k'.oB, k'.len, k'.lenB, k'.ox, fun i s ys hs hy => ?_, k'.dis, k'.dA, k'.dB, k'.dl, k'.dw⟩
    rcases app_at hs with ⟨h5, h6⟩ | ⟨h5, rfl⟩
    · rw [List.getElem?_append_left (by have := h.k3.lenB; omega)] at hy
      refine (h.k3.rd i s ys h6 hy).chg ch (fun m hm he => ?_)
      have h9 : blksOf s3 m := ⟨i, s, h6, hm⟩
      rcases he with he | he | he
      · exact (h.k3.dw m h9).2.1 he
      · exact (h.k3.dA m he).2.2.2.2 h9
      · exact (h.k3.dB m he).2.2.2 h9
    · rcases app_at hy with ⟨h6, _⟩ | ⟨_, rfl⟩
      · have := h.k3.lenB; omega
      · refine (hG.chg c1420 (fun m hm he => ?_)).rd
        have hm' := hbk m hm
        rcases he with he | he
        · have := h.ob.lt; omega
        · have := h.k3.oB.lt he; omega
  refine ⟨rfl, ⟨A1, B1, l1, s1, x1, A2, B2, l2, s2, x2, A', B', l3 ++ [l], s3 ++ [c'], x3 ++ [xs], D1, D2, _, ⟨o', h.k1.chg ch (fun k e he => ?_), h.k2.chg ch (fun k e he => ?_), kk.nar, h.n1, h.n2, by rw [List.length_append]; show l3.length + 1 ≤ 250; omega, h.d12, fun k f e => ?_, fun k f e => ?_, ⟨h.nb.1, h.nb.2.1, fun e => ?_⟩, fun k e => ?_⟩, ⟨hD' b hb, fun k e => ?_⟩, fun k e => ?_⟩, ch.mono (fun k _ e => ?_)⟩
  · rcases av he with e' | e'
    · subst e'; exact h.nb.1 e
    · exact h.d13 k e e'
  · rcases av he with e' | e'
    · subst e'; exact h.nb.2.1 e
    · exact h.d23 k e e'
  · rcases e.1 with e | e | e
    · exact h.d13 k f e
    · have := h.lo k (Or.inl f); omega
    · exact (hl k e).2 (hDD k (Or.inl f))
  · rcases e.1 with e | e | e
    · exact h.d23 k f e
    · have := h.lo k (Or.inr (Or.inl f)); omega
    · exact (hl k e).2 (hDD k (Or.inr (Or.inl f)))
  · rcases e.1 with e | e | e
    · exact h.nb.2.2 e
    · have := h.ob.lt; omega
    · exact (hl _ e).2 hb
  · rcases e with e | e | e
    · have := h.lo k (Or.inl e); omega
    · have := h.lo k (Or.inr (Or.inl e)); omega
    · exact e.2
  · rcases e with e | e | e
    · exact hD' _ (hDD k (Or.inl e))
    · exact hD' _ (hDD k (Or.inr (Or.inl e)))
    · rcases e.1 with e | e | e
      · exact hD' _ (em k e)
      · exact hD' _ (hD k e)
      · exact (hl k e).1
  · rcases e with e | e | e | e | e | e | e
    · exact hPP k (Or.inl e)
    · exact hPP k (Or.inr (Or.inl e))
    · exact hPP k (Or.inr (Or.inr (Or.inl e)))
    · exact hPP k (Or.inr (Or.inr (Or.inr (Or.inl e))))
    · exact hPP k (Or.inr (Or.inr (Or.inr (Or.inr (Or.inl e)))))
    · rcases hAn k e with e | e
      · exact hPP k (Or.inr (Or.inr (Or.inr (Or.inr (Or.inr (Or.inl e))))))
      · exact hp k e
    · rcases hB14 k e with e | e
      · exact hPP k (Or.inr (Or.inr (Or.inr (Or.inr (Or.inr (Or.inr e))))))
      · exact hp k (by have := c14.size; omega)
  · rcases e with e | e | e
    · exact hPP k (Or.inl e)
    · exact hPP k (Or.inr (Or.inr (Or.inr (Or.inr (Or.inr (Or.inl e))))))
    · exact hPP k (Or.inr (Or.inr (Or.inr (Or.inr (Or.inr (Or.inr e))))))
theorem BkV.apart {D P : Nat → Prop} {w : World} {b : Nat} (h : BkV D P w b) : Calls Try.prog fn_hollowaybook_Book_Apart #[.pointer (some ⟨b, 0, none⟩)] w fun e w' => e = .returned (.bool true) ∧ Chg D w w' := by
  refine (hollowaybook_Book_Apart_lift (K := fun r w' => r = .bool true ∧ Chg D w w') ?_).mono (by rintro e w' ⟨r, rfl, rfl, h⟩; exact ⟨rfl, h⟩)
  unfold hollowaybook_Book_Apart_sh
  obtain ⟨A1, B1, l1, s1, x1, A2, B2, l2, s2, x2, A3, B3, l3, s3, x3, D1, D2, D3, h, ⟨hb, hDD⟩, _⟩ := h
  have L1 : ∀ k, blksOf l1 k → D1 k := fun k e => (h.k1.dl k e).1
  have L2 : ∀ k, blksOf l2 k → D2 k := fun k e => (h.k2.dl k e).1
  have L3 : ∀ k, blksOf l3 k → D3 k := fun k e => (h.k3.dl k e).1
  have M1 : ∀ k, A1.blk = some k → D1 k := fun k e => (h.k1.dA k e).1
  have M2 : ∀ k, A2.blk = some k → D2 k := fun k e => (h.k2.dA k e).1
  have M3 : ∀ k, A3.blk = some k → D3 k := fun k e => (h.k3.dA k e).1
  have b1 : ¬ blksOf l1 b := fun e => h.nb.1 (L1 b e)
  have b2 : ¬ blksOf l2 b := fun e => h.nb.2.1 (L2 b e)
  have b3 : ¬ blksOf l3 b := fun e => h.nb.2.2 (L3 b e)
  have d12 := h.d12
  have d13 := h.d13
  have d23 := h.d23
  have o1 : ∀ k, blksOf l1 k → k < w.heap.size := fun k e => (h.k1.dl k e).2.2
  have o2 : ∀ k, blksOf l2 k → k < w.heap.size := fun k e => (h.k2.dl k e).2.2
  have o3 : ∀ k, blksOf l3 k → k < w.heap.size := fun k e => (h.k3.dl k e).2.2
  have hK1 : KB intE T_sl_int w b 2 A1 B1 l1 s1 x1 := ⟨h.ob.cell rfl, h.ob.cell rfl, h.k1.oA.rd, h.k1.oB.rd, h.k1.len, h.k1.lenB, by have := h.n1; omega, h.k1.ox, h.k1.rd, h.k1.dis, b1, fun k e => (h.k1.dA k e).2.2.2.1⟩
  have hK2 : KB insE T_sl_api_Ins w b 8 A2 B2 l2 s2 x2 := ⟨h.ob.cell rfl, h.ob.cell rfl, h.k2.oA.rd, h.k2.oB.rd, h.k2.len, h.k2.lenB, by have := h.n2; omega, h.k2.ox, h.k2.rd, h.k2.dis, b2, fun k e => (h.k2.dA k e).2.2.2.1⟩
  have hK3 : KB ouE T_sl_api_Out w b 10 A3 B3 l3 s3 x3 := ⟨h.ob.cell rfl, h.ob.cell rfl, h.k3.oA.rd, h.k3.oB.rd, h.k3.len, h.k3.lenB, by have := h.n3; omega, h.k3.ox, h.k3.rd, h.k3.dis, b3, fun k e => (h.k3.dA k e).2.2.2.1⟩
  have hP1 : KP intE T_sl_int w b 2 A1 l1 x1 := ⟨h.ob.cell rfl, h.k1.oA.rd, h.k1.len, by have := h.n1; omega, h.k1.ox, h.k1.dis, b1, fun k e => (h.k1.dA k e).2.2.2.1⟩
  have hP2 : KP insE T_sl_api_Ins w b 8 A2 l2 x2 := ⟨h.ob.cell rfl, h.k2.oA.rd, h.k2.len, by have := h.n2; omega, h.k2.ox, h.k2.dis, b2, fun k e => (h.k2.dA k e).2.2.2.1⟩
  have hP3 : KP ouE T_sl_api_Out w b 10 A3 l3 x3 := ⟨h.ob.cell rfl, h.k3.oA.rd, h.k3.len, by have := h.n3; omega, h.k3.ox, h.k3.dis, b3, fun k e => (h.k3.dA k e).2.2.2.1⟩
  have hc : ∀ j : Nat, j = 0 ∨ j = 4 ∨ j = 6 → w.cell? ⟨b, j, none⟩ = some nilS.val := fun j hj => by rcases hj with rfl | rfl | rfl <;> exact h.ob.cell rfl
  refine (stillTexts_nil (hc 0 (by omega))).mono ?_
  rintro e wz ⟨rfl, rfl⟩
  refine ⟨_, rfl, brN_f ?_⟩
  refine (stillInts_any hK1).mono ?_
  rintro e w1 ⟨rfl, c1⟩
  have hc1 : ∀ j : Nat, j = 0 ∨ j = 4 ∨ j = 6 → w1.cell? ⟨b, j, none⟩ = some nilS.val := fun j hj => c1.cell (hc j hj) (fun h => h)
  refine ⟨_, rfl, brN_f ?_⟩
  refine (stillWords_nil (hc1 4 (by omega))).mono ?_
  rintro e wz ⟨rfl, rfl⟩
  refine ⟨_, rfl, brN_f ?_⟩
  refine (stillSeens_nil (hc1 6 (by omega))).mono ?_
  rintro e wz ⟨rfl, rfl⟩
  refine ⟨_, rfl, brN_f ?_⟩
  refine (stillCodes_any (hK2.no c1)).mono ?_
  rintro e w2 ⟨rfl, c2⟩
  refine ⟨_, rfl, brN_f ?_⟩
  have c12 := trN c1 c2
  refine (stillExits_any (hK3.no c12)).mono ?_
  rintro e w3 ⟨rfl, c3⟩
  have cS := trN c12 c3
  have hcS : ∀ j : Nat, j = 0 ∨ j = 4 ∨ j = 6 → w3.cell? ⟨b, j, none⟩ = some nilS.val := fun j hj => cS.cell (hc j hj) (fun h => h)
  refine ⟨_, rfl, brN_f ?_⟩
  refine (putExits_any (hP3.chg cS (fun h => h) (fun _ _ h => h) (fun _ _ h => h))).mono ?_
  rintro e w4 ⟨rfl, m3, c4⟩
  have k4 : Chg (blksOf l3) w w4 := cS.trans c4 (fun _ _ h => h.elim) (fun _ _ h => h)
  have hc4 : ∀ j : Nat, j = 0 ∨ j = 4 ∨ j = 6 → w4.cell? ⟨b, j, none⟩ = some nilS.val := fun j hj => k4.cell (hc j hj) b3
  refine ⟨rfl, ?_⟩
  refine (putTexts_nil (hc4 0 (by omega))).mono ?_
  rintro e wz ⟨rfl, rfl⟩
  refine ⟨rfl, ?_⟩
  refine (putIntsX_any (hP1.chg k4 b3 (fun k e f => d13 k (M1 k e) (L3 k f)) (fun k e f => d13 k (L1 k e) (L3 k f)))).mono ?_
  rintro e w5 ⟨rfl, m1, c5⟩
  have k5 : Chg (fun k => blksOf l3 k ∨ blksOf l1 k) w w5 := k4.trans c5 (fun _ _ h => Or.inl h) (fun _ _ h => Or.inr h)
  have m3' := m3.chg c5 b1 (fun k e f => d13 k (L1 k f) (M3 k e)) (fun k e f => d13 k (L1 k f) (L3 k e))
  have hc5 : ∀ j : Nat, j = 0 ∨ j = 4 ∨ j = 6 → w5.cell? ⟨b, j, none⟩ = some nilS.val := fun j hj => c5.cell (hc4 j hj) b1
  refine ⟨rfl, ?_⟩
  refine (putWords_nil (hc5 4 (by omega))).mono ?_
  rintro e wz ⟨rfl, rfl⟩
  refine ⟨rfl, ?_⟩
  refine (putSeens_nil (hc5 6 (by omega))).mono ?_
  rintro e wz ⟨rfl, rfl⟩
  refine ⟨rfl, ?_⟩
  refine (putCodes_any (hP2.chg k5 (fun f => f.elim b3 b1) (fun k e f => f.elim (fun f => d23 k (M2 k e) (L3 k f)) (fun f => d12 k (L1 k f) (M2 k e))) (fun k e f => f.elim (fun f => d23 k (L2 k e) (L3 k f)) (fun f => d12 k (L1 k f) (L2 k e))))).mono ?_
  rintro e w6 ⟨rfl, m2, c6⟩
  have m3x := m3'.chg c6 b2 (fun k e f => d23 k (L2 k f) (M3 k e)) (fun k e f => d23 k (L2 k f) (L3 k e))
  have m1x := m1.chg c6 b2 (fun k e f => d12 k (M1 k e) (L2 k f)) (fun k e f => d12 k (L1 k e) (L2 k f))
  have hc6 : ∀ j : Nat, j = 0 ∨ j = 4 ∨ j = 6 → w6.cell? ⟨b, j, none⟩ = some nilS.val := fun j hj => c6.cell (hc5 j hj) b2
  have k6 : Chg (fun k => (blksOf l3 k ∨ blksOf l1 k) ∨ blksOf l2 k) w w6 := k5.trans c6 (fun _ _ h => Or.inl h) (fun _ _ h => Or.inr h)
  have z6 := k6.size
  refine ⟨rfl, ?_⟩
  refine (growTexts_nil (hc6 0 (by omega))).mono ?_
  rintro e wz ⟨rfl, rfl⟩
  refine ⟨nilS, rfl, ?_⟩
  refine (growIntsX_any m1x).mono ?_
  rintro e w7 ⟨out1, rfl, g1, q1, c7⟩
  have m2x := m2.chg c7 b1 (fun k e f => d12 k (L1 k f) (M2 k e)) (fun k e f => d12 k (L1 k f) (L2 k e))
  have m3y := m3x.chg c7 b1 (fun k e f => d13 k (L1 k f) (M3 k e)) (fun k e f => d13 k (L1 k f) (L3 k e))
  have hc7 : ∀ j : Nat, j = 0 ∨ j = 4 ∨ j = 6 → w7.cell? ⟨b, j, none⟩ = some nilS.val := fun j hj => c7.cell (hc6 j hj) b1
  have z7 := c7.size
  refine ⟨out1, rfl, ?_⟩
  refine (growWords_nil (hc7 4 (by omega))).mono ?_
  rintro e wz ⟨rfl, rfl⟩
  refine ⟨nilS, rfl, ?_⟩
  refine (growSeens_nil (hc7 6 (by omega))).mono ?_
  rintro e wz ⟨rfl, rfl⟩
  refine ⟨nilS, rfl, ?_⟩
  refine (growCodes_any m2x).mono ?_
  rintro e w8 ⟨out2, rfl, g2, q2, c8⟩
  have m3z := m3y.chg c8 b2 (fun k e f => d23 k (L2 k f) (M3 k e)) (fun k e f => d23 k (L2 k f) (L3 k e))
  have z8 := c8.size
  refine ⟨out2, rfl, ?_⟩
  refine (growExits_any m3z).mono ?_
  rintro e w9 ⟨out3, rfl, g3, q3, c9⟩
  have c79 : Chg (fun k => blksOf l2 k ∨ blksOf l3 k) w7 w9 := c8.trans c9 (fun _ _ h => Or.inl h) (fun _ _ h => Or.inr h)
  have hc9 : ∀ j : Nat, j = 0 ∨ j = 4 ∨ j = 6 → w9.cell? ⟨b, j, none⟩ = some nilS.val := fun j hj => c79.cell (hc7 j hj) (fun f => f.elim b2 b3)
  have G1 := g1.chg c79 (fun k e f => f.elim (fun f => d12 k (L1 k e) (L2 k f)) (fun f => d13 k (L1 k e) (L3 k f))) (fun k f => by have := f.elim (o2 k) (o3 k); omega)
  have G2 := g2.chg c9 (fun k e f => d23 k (L2 k e) (L3 k f)) (fun k f => by have := o3 k f; omega)
  have Q1 := q1.chg c79 (fun k e f => f.elim (fun f => d12 k (L1 k e) (L2 k f)) (fun f => d13 k (L1 k e) (L3 k f)))
  have Q2 := q2.chg c9 (fun k e f => d23 k (L2 k e) (L3 k f))
  have k9 : Chg (fun k => (blksOf l3 k ∨ blksOf l1 k) ∨ blksOf l2 k) w w9 := (k6.trans c7 (fun _ _ h => h) (fun _ _ h => Or.inl (Or.inr h))).trans c79 (fun _ _ h => h) (fun _ _ h => h.elim Or.inr (fun h => Or.inl (Or.inl h)))
  have c69 : Chg (fun k => (blksOf l3 k ∨ blksOf l1 k) ∨ blksOf l2 k) w6 w9 := c7.trans c79 (fun _ _ h => Or.inl (Or.inr h)) (fun _ _ h => h.elim Or.inr (fun h => Or.inl (Or.inl h)))
  have nL : ¬ ((blksOf l3 b ∨ blksOf l1 b) ∨ blksOf l2 b) := fun f => f.elim (fun f => f.elim b3 b1) b2
  have U1 : Grown' intE T_sl_int mkI w9 A1 l1.length := Q1.asGrown (m1x.rA.chg c69 (fun k e f => f.elim (fun f => f.elim (fun f => d13 k (M1 k e) (L3 k f)) (m1x.nA k e)) (fun f => d12 k (M1 k e) (L2 k f)))) (fun i s hs => by have := (m1x.ox i s hs).2; omega)
  have U2 : Grown' insE T_sl_api_Ins mkC w9 A2 l2.length := Q2.asGrown ((m2.rA.chg c69 (fun k e f => f.elim (fun f => f.elim (fun f => d23 k (M2 k e) (L3 k f)) (fun f => d12 k (L1 k f) (M2 k e))) (m2.nA k e)))) (fun i s hs => by have := (m2.ox i s hs).2; omega)
  have U3 : Grown' ouE T_sl_api_Out mkX w9 A3 l3.length := q3.asGrown (m3z.rA.chg c9 m3z.nA) (fun i s hs => by have := (m3z.ox i s hs).2; omega)
  have cl1 : w9.cell? ⟨b, 2, none⟩ = some A1.val := k9.cell (h.ob.cell rfl) nL
  have cl2 : w9.cell? ⟨b, 8, none⟩ = some A2.val := k9.cell (h.ob.cell rfl) nL
  have cl3 : w9.cell? ⟨b, 10, none⟩ = some A3.val := k9.cell (h.ob.cell rfl) nL
  have c0 : Chg No w9 w9 := Chg.refl _ _
  refine ⟨out3, rfl, ?_⟩
  refine (markedTexts_nil _).mono ?_
  rintro e wz ⟨rfl, rfl⟩
  refine ⟨_, rfl, brB_t ⟨nilS, c0.cell (hc9 0 (by omega)) (fun h => h), ?_⟩⟩
  refine (markedTexts_nil _).mono ?_
  rintro e wz ⟨rfl, rfl⟩
  refine ⟨_, rfl, brB_t ?_⟩
  refine (markedInts_any (by have := h.n1; omega) (G1.old.no c0)).mono ?_
  rintro e wa1 ⟨rfl, ca1⟩
  have e1 := trN c0 ca1
  refine ⟨_, rfl, brB_t ⟨A1, e1.cell cl1 (fun h => h), ?_⟩⟩
  refine (markedInts_any (by have := h.n1; omega) (U1.no e1)).mono ?_
  rintro e wb1 ⟨rfl, cb1⟩
  have f1 := trN e1 cb1
  refine ⟨_, rfl, brB_t ?_⟩
  refine (markedWords_nil _).mono ?_
  rintro e wz ⟨rfl, rfl⟩
  refine ⟨_, rfl, brB_t ⟨nilS, f1.cell (hc9 4 (by omega)) (fun h => h), ?_⟩⟩
  refine (markedWords_nil _).mono ?_
  rintro e wz ⟨rfl, rfl⟩
  refine ⟨_, rfl, brB_t ?_⟩
  refine (markedSeens_nil _).mono ?_
  rintro e wz ⟨rfl, rfl⟩
  refine ⟨_, rfl, brB_t ⟨nilS, f1.cell (hc9 6 (by omega)) (fun h => h), ?_⟩⟩
  refine (markedSeens_nil _).mono ?_
  rintro e wz ⟨rfl, rfl⟩
  refine ⟨_, rfl, brB_t ?_⟩
  refine (markedCodes_any (by have := h.n2; omega) (G2.old.no f1)).mono ?_
  rintro e wa2 ⟨rfl, ca2⟩
  have e2 := trN f1 ca2
  refine ⟨_, rfl, brB_t ⟨A2, e2.cell cl2 (fun h => h), ?_⟩⟩
  refine (markedCodes_any (by have := h.n2; omega) (U2.no e2)).mono ?_
  rintro e wb2 ⟨rfl, cb2⟩
  have f2 := trN e2 cb2
  refine ⟨_, rfl, brB_t ?_⟩
  refine (markedExits_any (by have := h.n3; omega) (g3.old.no f2)).mono ?_
  rintro e wa3 ⟨rfl, ca3⟩
  have e3 := trN f2 ca3
  refine ⟨_, rfl, brB_t ⟨A3, e3.cell cl3 (fun h => h), ?_⟩⟩
  refine (markedExits_any (by have := h.n3; omega) (U3.no e3)).mono ?_
  rintro e wb3 ⟨rfl, cb3⟩
  have f3 := trN e3 cb3
  exact ⟨_, rfl, rfl, k9.trans f3 (fun k _ f => f.elim (fun f => f.elim (fun f => hDD k (Or.inr (Or.inr (L3 k f)))) (fun f => hDD k (Or.inl (L1 k f)))) (fun f => hDD k (Or.inr (Or.inl (L2 k f))))) (fun _ _ h => h.elim)⟩
end Go.Proofs.Ytlpbdloloaoapaa
