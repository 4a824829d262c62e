/- Functions of Cache, read without their frames; that each is enough. Printed by a program of mine (wip/lift/gen.py). -/
import Derived.Test.YtijoigpggphajaaOrc
set_option maxRecDepth 100000
namespace Go.Proofs.Ytijoigpggphajaa
open Go.RowKit

-- holloway/cache.New
def cache_New_sh (most1 : Int) (w : World) (K : Value → World → Prop) : Prop :=
 ∀ (b2 : Nat) (w3 : World), b2 = w.heap.size → w3 = World.alloc w (.cells #[.int .i64 (imin (imax most1 (0 : Int)) (100 : Int)), .slice none 0 0] T_cache_Cache) →
 K (.pointer (some ⟨b2, 0, none⟩)) w3
def cache_New_an : An := ⟨[], [], []⟩
theorem cache_New_lift {most1 : Int} {w : World} {K : Value → World → Prop} (h : cache_New_sh most1 w K) : Calls Try.prog fn_cache_New #[.int .i64 most1] w fun e w' => ∃ v, e = .returned v ∧ K v w' :=
   lift_calls (A := cache_New_an) (c := bodyOf Try.f13) (args := [.int .i64 most1]) orc orc_wide Try.func13 (by kernel_rfl) (by kernel_rfl) (Eq.mp (by kernel_rfl : cache_New_sh most1 w K = wpc orc Try.f13.ntmps cache_New_an (bodyOf Try.f13) (argl 0 [.int .i64 most1]) w (retQ orc Try.f13.results.toList K)) h)

-- (*holloway/cache.Cache).Put
def cache_Cache_Put_sh (c_1 : Nat) (t__Start2 : Int) (t__Slots3 : Int) (t__Backs4 : Int) (t__Grow5 : Int) (t__GrowBack6 : Int) (t__Ins7 : Sl) (t__Outs8 : Sl) (t__Last9 : Int) (t__Cells10 : Sl) (w : World) (K : Value → World → Prop) : Prop :=
 ∀ (b11 : Nat) (w12 : World), b11 = w.heap.size → w12 = World.alloc w (.cells #[.int .i64 t__Start2, .int .i64 t__Slots3, .int .i64 t__Backs4, .int .i64 t__Grow5, .int .i64 t__GrowBack6, t__Ins7.val, t__Outs8.val, .int .i64 t__Last9, t__Cells10.val] T_api_Trace) →
 ∃ n13 : Int, w12.cell? ⟨b11, 0, none⟩ = some (.int .i64 n13) ∧
 Calls Try.prog fn_cache_Cache_place #[.pointer (some ⟨c_1, 0, none⟩), .int .i64 n13] w12 fun e14 w15 => ∃ n16 : Int, e14 = .returned (.int .i64 n16) ∧
 ∃ J7 : World → Prop, (∀ (w22 : World), J7  w22 →
 ∀ w23 : World, w23 = World.drew w22 →
 ∃ S24 : World → Prop, S24 w23 ∧
 ∃ s25 : Sl, held S24 ⟨c_1, 1, none⟩ (s25.val) ∧
 ∃ n_Start26 : Int, ∃ n_Slots27 : Int, ∃ n_Backs28 : Int, ∃ n_Grow29 : Int, ∃ n_GrowBack30 : Int, ∃ s_Ins31 : Sl, ∃ s_Outs32 : Sl, ∃ n_Last33 : Int, ∃ s_Cells34 : Sl, held S24 ⟨b11, 0, none⟩ (.int .i64 n_Start26) ∧ held S24 ⟨b11, 1, none⟩ (.int .i64 n_Slots27) ∧ held S24 ⟨b11, 2, none⟩ (.int .i64 n_Backs28) ∧ held S24 ⟨b11, 3, none⟩ (.int .i64 n_Grow29) ∧ held S24 ⟨b11, 4, none⟩ (.int .i64 n_GrowBack30) ∧ held S24 ⟨b11, 5, none⟩ (s_Ins31.val) ∧ held S24 ⟨b11, 6, none⟩ (s_Outs32.val) ∧ held S24 ⟨b11, 7, none⟩ (.int .i64 n_Last33) ∧ held S24 ⟨b11, 8, none⟩ (s_Cells34.val) ∧
 Calls Try.prog fn_cache_own #[.agg #[.int .i64 n_Start26, .int .i64 n_Slots27, .int .i64 n_Backs28, .int .i64 n_Grow29, .int .i64 n_GrowBack30, s_Ins31.val, s_Outs32.val, .int .i64 n_Last33, s_Cells34.val]] w23 fun e35 w36 => ∃ n_Start37 : Int, ∃ n_Slots38 : Int, ∃ n_Backs39 : Int, ∃ n_Grow40 : Int, ∃ n_GrowBack41 : Int, ∃ s_Ins42 : Sl, ∃ s_Outs43 : Sl, ∃ n_Last44 : Int, ∃ s_Cells45 : Sl, e35 = .returned (.agg #[.int .i64 n_Start37, .int .i64 n_Slots38, .int .i64 n_Backs39, .int .i64 n_Grow40, .int .i64 n_GrowBack41, s_Ins42.val, s_Outs43.val, .int .i64 n_Last44, s_Cells45.val]) ∧
 S24 w36 ∧
 ∀ (b46 : Nat) (w47 : World), b46 = w36.heap.size → w47 = World.alloc w36 (.cells #[.int .i64 n_Start37, .int .i64 n_Slots38, .int .i64 n_Backs39, .int .i64 n_Grow40, .int .i64 n_GrowBack41, s_Ins42.val, s_Outs43.val, .int .i64 n_Last44, s_Cells45.val] T_api_Trace) →
 S24 w47 ∧
 ∃ s48 : Sl, ∃ w49 : World, (Builtin.append_ #[T_sl_api_Trace, T_sl_api_Trace] T_sl_api_Trace #[s25.val, .slice (some ⟨b46, 0, none⟩) 1 1]).run Try.prog w47 = .ok (s48.val) w49 ∧
 S24 w49 ∧
 wrOk w49 ⟨c_1, 1, none⟩ 1 ∧ ∀ w50 : World, w50 = stW w49 ⟨c_1, 1, none⟩ 0 [s48.val] →
 ∃ (I1 : Sl → World → Prop) (μ1 : Sl → World → Nat), I1 (⟨none, 0, 0⟩ : Sl) w50 ∧ ∀ (gone55 : Sl) (w51 : World), I1 gone55 w51 →
 ∀ w52 : World, w52 = World.drew w51 →
 ∃ s53 : Sl, held (Lw w52) ⟨c_1, 1, none⟩ (s53.val) ∧
 ∃ n54 : Int, held (Lw w52) ⟨c_1, 0, none⟩ (.int .i64 n54) ∧
 brB (decide ((s53.len : Int) > n54))
 (∃ s56 : Sl, w52.cell? ⟨c_1, 1, none⟩ = some (s56.val) ∧
 ∃ a57 : Addr, s56.ptr = some a57 ∧ 0 ≤ (0 : Int) ∧ (0 : Int) < (s56.len : Int) ∧
 ∃ n58 : Int, w52.cell? (Addr.add a57 (Int.toNat (0 : Int) * 9)) = some (.int .i64 n58) ∧
 ∀ (b59 : Nat) (w60 : World), b59 = w52.heap.size → w60 = World.alloc w52 (.cells #[.int .i64 n58] T_int) →
 ∃ s61 : Sl, ∃ w62 : World, (Builtin.append_ #[T_sl_int, T_sl_int] T_sl_int #[gone55.val, .slice (some ⟨b59, 0, none⟩) 1 1]).run Try.prog w60 = .ok (s61.val) w62 ∧
 ∃ s63 : Sl, w62.cell? ⟨c_1, 1, none⟩ = some (s63.val) ∧
 0 ≤ (1 : Int) ∧ (1 : Int) ≤ (s63.len : Int) ∧ ∀ s64 : Sl, s64 = Sl.sub s63.ptr s63.cap (Int.toNat (1 : Int)) s63.len 9 →
 wrOk w62 ⟨c_1, 1, none⟩ 1 ∧ ∀ w65 : World, w65 = stW w62 ⟨c_1, 1, none⟩ 0 [s64.val] →
 I1 s61 w65 ∧ μ1 s61 w65 < μ1 gone55 w51)
 (K (gone55.val) w52)) ∧
 brB (decide (n16 ≥ (0 : Int)))
 (∃ s17 : Sl, w15.cell? ⟨c_1, 1, none⟩ = some (s17.val) ∧
 Calls Try.prog fn_slices_Delete_sl_api_Trace_api_Trace #[s17.val, .int .i64 n16, .int .i64 (wr (n16 + (1 : Int)))] w15 fun e18 w19 => ∃ s20 : Sl, e18 = .returned (s20.val) ∧
 wrOk w19 ⟨c_1, 1, none⟩ 1 ∧ ∀ w21 : World, w21 = stW w19 ⟨c_1, 1, none⟩ 0 [s20.val] →
 J7  w21)
 (J7  w15)
def cache_Cache_Put_an : An := ⟨[(8, [(5, .sl)])], [(7, (9, .st 0 (.st 1 (.st 2 (.st 3 (.st 4 (.st 5 (.ef 6 (.ef 7 (.ef 8 .done)))))))), 1)), (8, (10, .st 0 (.st 1 (.st 2 (.st 3 (.st 4 (.st 5 (.st 6 (.st 7 (.st 8 (.st 9 .done))))))))), 0))], [(7, [])]⟩
theorem cache_Cache_Put_lift {c_1 : Nat} {t__Start2 : Int} {t__Slots3 : Int} {t__Backs4 : Int} {t__Grow5 : Int} {t__GrowBack6 : Int} {t__Ins7 : Sl} {t__Outs8 : Sl} {t__Last9 : Int} {t__Cells10 : Sl} {w : World} {K : Value → World → Prop} (h : cache_Cache_Put_sh c_1 t__Start2 t__Slots3 t__Backs4 t__Grow5 t__GrowBack6 t__Ins7 t__Outs8 t__Last9 t__Cells10 w K) : Calls Try.prog fn_cache_Cache_Put #[.pointer (some ⟨c_1, 0, none⟩), .agg #[.int .i64 t__Start2, .int .i64 t__Slots3, .int .i64 t__Backs4, .int .i64 t__Grow5, .int .i64 t__GrowBack6, t__Ins7.val, t__Outs8.val, .int .i64 t__Last9, t__Cells10.val]] w fun e w' => ∃ v, e = .returned v ∧ K v w' :=
   lift_calls (A := cache_Cache_Put_an) (c := bodyOf Try.f14) (args := [.pointer (some ⟨c_1, 0, none⟩), .agg #[.int .i64 t__Start2, .int .i64 t__Slots3, .int .i64 t__Backs4, .int .i64 t__Grow5, .int .i64 t__GrowBack6, t__Ins7.val, t__Outs8.val, .int .i64 t__Last9, t__Cells10.val]]) orc orc_wide Try.func14 (by kernel_rfl) (by kernel_rfl) (Eq.mp (by kernel_rfl : cache_Cache_Put_sh c_1 t__Start2 t__Slots3 t__Backs4 t__Grow5 t__GrowBack6 t__Ins7 t__Outs8 t__Last9 t__Cells10 w K = wpc orc Try.f14.ntmps cache_Cache_Put_an (bodyOf Try.f14) (argl 0 [.pointer (some ⟨c_1, 0, none⟩), .agg #[.int .i64 t__Start2, .int .i64 t__Slots3, .int .i64 t__Backs4, .int .i64 t__Grow5, .int .i64 t__GrowBack6, t__Ins7.val, t__Outs8.val, .int .i64 t__Last9, t__Cells10.val]]) w (retQ orc Try.f14.results.toList K)) h)

-- (*holloway/cache.Cache).Len
def cache_Cache_Len_sh (c_1 : Nat) (w : World) (K : Value → World → Prop) : Prop :=
 ∃ s2 : Sl, w.cell? ⟨c_1, 1, none⟩ = some (s2.val) ∧
 K (.int .i64 (s2.len : Int)) w
def cache_Cache_Len_an : An := ⟨[], [], []⟩
theorem cache_Cache_Len_lift {c_1 : Nat} {w : World} {K : Value → World → Prop} (h : cache_Cache_Len_sh c_1 w K) : Calls Try.prog fn_cache_Cache_Len #[.pointer (some ⟨c_1, 0, none⟩)] w fun e w' => ∃ v, e = .returned v ∧ K v w' :=
   lift_calls (A := cache_Cache_Len_an) (c := bodyOf Try.f16) (args := [.pointer (some ⟨c_1, 0, none⟩)]) orc orc_wide Try.func16 (by kernel_rfl) (by kernel_rfl) (Eq.mp (by kernel_rfl : cache_Cache_Len_sh c_1 w K = wpc orc Try.f16.ntmps cache_Cache_Len_an (bodyOf Try.f16) (argl 0 [.pointer (some ⟨c_1, 0, none⟩)]) w (retQ orc Try.f16.results.toList K)) h)

-- (*holloway/cache.Cache).Has
def cache_Cache_Has_sh (c_1 : Nat) (start2 : Int) (w : World) (K : Value → World → Prop) : Prop :=
 Calls Try.prog fn_cache_Cache_place #[.pointer (some ⟨c_1, 0, none⟩), .int .i64 start2] w fun e3 w4 => ∃ n5 : Int, e3 = .returned (.int .i64 n5) ∧
 K (.bool (decide (n5 ≥ (0 : Int)))) w4
def cache_Cache_Has_an : An := ⟨[], [], []⟩
theorem cache_Cache_Has_lift {c_1 : Nat} {start2 : Int} {w : World} {K : Value → World → Prop} (h : cache_Cache_Has_sh c_1 start2 w K) : Calls Try.prog fn_cache_Cache_Has #[.pointer (some ⟨c_1, 0, none⟩), .int .i64 start2] w fun e w' => ∃ v, e = .returned v ∧ K v w' :=
   lift_calls (A := cache_Cache_Has_an) (c := bodyOf Try.f17) (args := [.pointer (some ⟨c_1, 0, none⟩), .int .i64 start2]) orc orc_wide Try.func17 (by kernel_rfl) (by kernel_rfl) (Eq.mp (by kernel_rfl : cache_Cache_Has_sh c_1 start2 w K = wpc orc Try.f17.ntmps cache_Cache_Has_an (bodyOf Try.f17) (argl 0 [.pointer (some ⟨c_1, 0, none⟩), .int .i64 start2]) w (retQ orc Try.f17.results.toList K)) h)

-- (*holloway/cache.Cache).Starts
def cache_Cache_Starts_sh (c_1 : Nat) (w : World) (K : Value → World → Prop) : Prop :=
 ∃ s2 : Sl, w.cell? ⟨c_1, 1, none⟩ = some (s2.val) ∧
 ∃ (I1 : Sl → Int → World → Prop) (μ1 : Sl → Int → World → Nat), I1 (⟨none, 0, 0⟩ : Sl) (0 : Int) w ∧ ∀ (out18 : Sl) (n4 : Int) (w3 : World), I1 out18 n4 w3 →
 brB (decide (n4 < (s2.len : Int)))
 (∃ a5 : Addr, s2.ptr = some a5 ∧ 0 ≤ n4 ∧ n4 < (s2.len : Int) ∧
 ∃ n_Start6 : Int, ∃ n_Slots7 : Int, ∃ n_Backs8 : Int, ∃ n_Grow9 : Int, ∃ n_GrowBack10 : Int, ∃ s_Ins11 : Sl, ∃ s_Outs12 : Sl, ∃ n_Last13 : Int, ∃ s_Cells14 : Sl, w3.cell? (Addr.add a5 (Int.toNat n4 * 9)) = some (.int .i64 n_Start6) ∧ w3.cell? (Addr.add (Addr.add a5 (Int.toNat n4 * 9)) 1) = some (.int .i64 n_Slots7) ∧ w3.cell? (Addr.add (Addr.add a5 (Int.toNat n4 * 9)) 2) = some (.int .i64 n_Backs8) ∧ w3.cell? (Addr.add (Addr.add a5 (Int.toNat n4 * 9)) 3) = some (.int .i64 n_Grow9) ∧ w3.cell? (Addr.add (Addr.add a5 (Int.toNat n4 * 9)) 4) = some (.int .i64 n_GrowBack10) ∧ w3.cell? (Addr.add (Addr.add a5 (Int.toNat n4 * 9)) 5) = some (s_Ins11.val) ∧ w3.cell? (Addr.add (Addr.add a5 (Int.toNat n4 * 9)) 6) = some (s_Outs12.val) ∧ w3.cell? (Addr.add (Addr.add a5 (Int.toNat n4 * 9)) 7) = some (.int .i64 n_Last13) ∧ w3.cell? (Addr.add (Addr.add a5 (Int.toNat n4 * 9)) 8) = some (s_Cells14.val) ∧
 ∀ (b15 : Nat) (w16 : World), b15 = w3.heap.size → w16 = World.alloc w3 (.cells #[.int .i64 (0 : Int), .int .i64 (0 : Int), .int .i64 (0 : Int), .int .i64 (0 : Int), .int .i64 (0 : Int), .slice none 0 0, .slice none 0 0, .int .i64 (0 : Int), .slice none 0 0] T_api_Trace) →
 wrOk w16 ⟨b15, 0, none⟩ 9 ∧ ∀ w17 : World, w17 = stW w16 ⟨b15, 0, none⟩ 0 [.int .i64 n_Start6, .int .i64 n_Slots7, .int .i64 n_Backs8, .int .i64 n_Grow9, .int .i64 n_GrowBack10, s_Ins11.val, s_Outs12.val, .int .i64 n_Last13, s_Cells14.val] →
 ∃ n19 : Int, w17.cell? ⟨b15, 0, none⟩ = some (.int .i64 n19) ∧
 ∀ (b20 : Nat) (w21 : World), b20 = w17.heap.size → w21 = World.alloc w17 (.cells #[.int .i64 n19] T_int) →
 ∃ s22 : Sl, ∃ w23 : World, (Builtin.append_ #[T_sl_int, T_sl_int] T_sl_int #[out18.val, .slice (some ⟨b20, 0, none⟩) 1 1]).run Try.prog w21 = .ok (s22.val) w23 ∧
 I1 s22 (wr (n4 + (1 : Int))) w23 ∧ μ1 s22 (wr (n4 + (1 : Int))) w23 < μ1 out18 n4 w3)
 (K (out18.val) w3)
def cache_Cache_Starts_an : An := ⟨[(4, [(3, .sl), (13, .int .i64)])], [], []⟩
theorem cache_Cache_Starts_lift {c_1 : Nat} {w : World} {K : Value → World → Prop} (h : cache_Cache_Starts_sh c_1 w K) : Calls Try.prog fn_cache_Cache_Starts #[.pointer (some ⟨c_1, 0, none⟩)] w fun e w' => ∃ v, e = .returned v ∧ K v w' :=
   lift_calls (A := cache_Cache_Starts_an) (c := bodyOf Try.f18) (args := [.pointer (some ⟨c_1, 0, none⟩)]) orc orc_wide Try.func18 (by kernel_rfl) (by kernel_rfl) (Eq.mp (by kernel_rfl : cache_Cache_Starts_sh c_1 w K = wpc orc Try.f18.ntmps cache_Cache_Starts_an (bodyOf Try.f18) (argl 0 [.pointer (some ⟨c_1, 0, none⟩)]) w (retQ orc Try.f18.results.toList K)) h)

-- (*holloway/cache.Cache).Get
def cache_Cache_Get_sh (c_1 : Nat) (start2 : Int) (w : World) (K : Value → World → Prop) : Prop :=
 ∀ (b3 : Nat) (w4 : World), b3 = w.heap.size → w4 = World.alloc w (.cells #[.int .i64 (0 : Int), .int .i64 (0 : Int), .int .i64 (0 : Int), .int .i64 (0 : Int), .int .i64 (0 : Int), .slice none 0 0, .slice none 0 0, .int .i64 (0 : Int), .slice none 0 0] T_api_Trace) →
 Calls Try.prog fn_cache_Cache_place #[.pointer (some ⟨c_1, 0, none⟩), .int .i64 start2] w4 fun e5 w6 => ∃ n7 : Int, e5 = .returned (.int .i64 n7) ∧
 brB (decide (n7 < (0 : Int)))
 (wrOk w6 ⟨b3, 0, none⟩ 9 ∧ ∀ w8 : World, w8 = stW w6 ⟨b3, 0, none⟩ 0 [.int .i64 (0 : Int), .int .i64 (0 : Int), .int .i64 (0 : Int), .int .i64 (0 : Int), .int .i64 (0 : Int), .slice none 0 0, .slice none 0 0, .int .i64 (0 : Int), .slice none 0 0] →
 ∃ r_Start9 : Int, ∃ r_Slots10 : Int, ∃ r_Backs11 : Int, ∃ r_Grow12 : Int, ∃ r_GrowBack13 : Int, ∃ r_Ins14 : Sl, ∃ r_Outs15 : Sl, ∃ r_Last16 : Int, ∃ r_Cells17 : Sl, w8.cell? ⟨b3, 0, none⟩ = some (.int .i64 r_Start9) ∧ w8.cell? ⟨b3, 1, none⟩ = some (.int .i64 r_Slots10) ∧ w8.cell? ⟨b3, 2, none⟩ = some (.int .i64 r_Backs11) ∧ w8.cell? ⟨b3, 3, none⟩ = some (.int .i64 r_Grow12) ∧ w8.cell? ⟨b3, 4, none⟩ = some (.int .i64 r_GrowBack13) ∧ w8.cell? ⟨b3, 5, none⟩ = some (r_Ins14.val) ∧ w8.cell? ⟨b3, 6, none⟩ = some (r_Outs15.val) ∧ w8.cell? ⟨b3, 7, none⟩ = some (.int .i64 r_Last16) ∧ w8.cell? ⟨b3, 8, none⟩ = some (r_Cells17.val) ∧
 K (.tuple #[.agg #[.int .i64 r_Start9, .int .i64 r_Slots10, .int .i64 r_Backs11, .int .i64 r_Grow12, .int .i64 r_GrowBack13, r_Ins14.val, r_Outs15.val, .int .i64 r_Last16, r_Cells17.val], .bool false]) w8)
 (∃ s18 : Sl, w6.cell? ⟨c_1, 1, none⟩ = some (s18.val) ∧
 ∃ a19 : Addr, s18.ptr = some a19 ∧ 0 ≤ n7 ∧ n7 < (s18.len : Int) ∧
 ∃ n_Start20 : Int, ∃ n_Slots21 : Int, ∃ n_Backs22 : Int, ∃ n_Grow23 : Int, ∃ n_GrowBack24 : Int, ∃ s_Ins25 : Sl, ∃ s_Outs26 : Sl, ∃ n_Last27 : Int, ∃ s_Cells28 : Sl, w6.cell? (Addr.add a19 (Int.toNat n7 * 9)) = some (.int .i64 n_Start20) ∧ w6.cell? (Addr.add (Addr.add a19 (Int.toNat n7 * 9)) 1) = some (.int .i64 n_Slots21) ∧ w6.cell? (Addr.add (Addr.add a19 (Int.toNat n7 * 9)) 2) = some (.int .i64 n_Backs22) ∧ w6.cell? (Addr.add (Addr.add a19 (Int.toNat n7 * 9)) 3) = some (.int .i64 n_Grow23) ∧ w6.cell? (Addr.add (Addr.add a19 (Int.toNat n7 * 9)) 4) = some (.int .i64 n_GrowBack24) ∧ w6.cell? (Addr.add (Addr.add a19 (Int.toNat n7 * 9)) 5) = some (s_Ins25.val) ∧ w6.cell? (Addr.add (Addr.add a19 (Int.toNat n7 * 9)) 6) = some (s_Outs26.val) ∧ w6.cell? (Addr.add (Addr.add a19 (Int.toNat n7 * 9)) 7) = some (.int .i64 n_Last27) ∧ w6.cell? (Addr.add (Addr.add a19 (Int.toNat n7 * 9)) 8) = some (s_Cells28.val) ∧
 ∀ (b29 : Nat) (w30 : World), b29 = w6.heap.size → w30 = World.alloc w6 (.cells #[.int .i64 (0 : Int), .int .i64 (0 : Int), .int .i64 (0 : Int), .int .i64 (0 : Int), .int .i64 (0 : Int), .slice none 0 0, .slice none 0 0, .int .i64 (0 : Int), .slice none 0 0] T_api_Trace) →
 wrOk w30 ⟨b29, 0, none⟩ 9 ∧ ∀ w31 : World, w31 = stW w30 ⟨b29, 0, none⟩ 0 [.int .i64 n_Start20, .int .i64 n_Slots21, .int .i64 n_Backs22, .int .i64 n_Grow23, .int .i64 n_GrowBack24, s_Ins25.val, s_Outs26.val, .int .i64 n_Last27, s_Cells28.val] →
 ∃ J7 : World → Prop, (∀ (w60 : World), J7  w60 →
 ∃ n_Start61 : Int, ∃ n_Slots62 : Int, ∃ n_Backs63 : Int, ∃ n_Grow64 : Int, ∃ n_GrowBack65 : Int, ∃ s_Ins66 : Sl, ∃ s_Outs67 : Sl, ∃ n_Last68 : Int, ∃ s_Cells69 : Sl, w60.cell? ⟨b29, 0, none⟩ = some (.int .i64 n_Start61) ∧ w60.cell? ⟨b29, 1, none⟩ = some (.int .i64 n_Slots62) ∧ w60.cell? ⟨b29, 2, none⟩ = some (.int .i64 n_Backs63) ∧ w60.cell? ⟨b29, 3, none⟩ = some (.int .i64 n_Grow64) ∧ w60.cell? ⟨b29, 4, none⟩ = some (.int .i64 n_GrowBack65) ∧ w60.cell? ⟨b29, 5, none⟩ = some (s_Ins66.val) ∧ w60.cell? ⟨b29, 6, none⟩ = some (s_Outs67.val) ∧ w60.cell? ⟨b29, 7, none⟩ = some (.int .i64 n_Last68) ∧ w60.cell? ⟨b29, 8, none⟩ = some (s_Cells69.val) ∧
 Calls Try.prog fn_cache_own #[.agg #[.int .i64 n_Start61, .int .i64 n_Slots62, .int .i64 n_Backs63, .int .i64 n_Grow64, .int .i64 n_GrowBack65, s_Ins66.val, s_Outs67.val, .int .i64 n_Last68, s_Cells69.val]] w60 fun e70 w71 => ∃ n_Start72 : Int, ∃ n_Slots73 : Int, ∃ n_Backs74 : Int, ∃ n_Grow75 : Int, ∃ n_GrowBack76 : Int, ∃ s_Ins77 : Sl, ∃ s_Outs78 : Sl, ∃ n_Last79 : Int, ∃ s_Cells80 : Sl, e70 = .returned (.agg #[.int .i64 n_Start72, .int .i64 n_Slots73, .int .i64 n_Backs74, .int .i64 n_Grow75, .int .i64 n_GrowBack76, s_Ins77.val, s_Outs78.val, .int .i64 n_Last79, s_Cells80.val]) ∧
 wrOk w71 ⟨b3, 0, none⟩ 9 ∧ ∀ w81 : World, w81 = stW w71 ⟨b3, 0, none⟩ 0 [.int .i64 n_Start72, .int .i64 n_Slots73, .int .i64 n_Backs74, .int .i64 n_Grow75, .int .i64 n_GrowBack76, s_Ins77.val, s_Outs78.val, .int .i64 n_Last79, s_Cells80.val] →
 ∃ r_Start82 : Int, ∃ r_Slots83 : Int, ∃ r_Backs84 : Int, ∃ r_Grow85 : Int, ∃ r_GrowBack86 : Int, ∃ r_Ins87 : Sl, ∃ r_Outs88 : Sl, ∃ r_Last89 : Int, ∃ r_Cells90 : Sl, w81.cell? ⟨b3, 0, none⟩ = some (.int .i64 r_Start82) ∧ w81.cell? ⟨b3, 1, none⟩ = some (.int .i64 r_Slots83) ∧ w81.cell? ⟨b3, 2, none⟩ = some (.int .i64 r_Backs84) ∧ w81.cell? ⟨b3, 3, none⟩ = some (.int .i64 r_Grow85) ∧ w81.cell? ⟨b3, 4, none⟩ = some (.int .i64 r_GrowBack86) ∧ w81.cell? ⟨b3, 5, none⟩ = some (r_Ins87.val) ∧ w81.cell? ⟨b3, 6, none⟩ = some (r_Outs88.val) ∧ w81.cell? ⟨b3, 7, none⟩ = some (.int .i64 r_Last89) ∧ w81.cell? ⟨b3, 8, none⟩ = some (r_Cells90.val) ∧
 K (.tuple #[.agg #[.int .i64 r_Start82, .int .i64 r_Slots83, .int .i64 r_Backs84, .int .i64 r_Grow85, .int .i64 r_GrowBack86, r_Ins87.val, r_Outs88.val, .int .i64 r_Last89, r_Cells90.val], .bool true]) w81) ∧
 ∀ w32 : World, w32 = World.drew w31 →
 ∃ S33 : World → Prop, S33 w32 ∧
 ∃ s34 : Sl, held S33 ⟨c_1, 1, none⟩ (s34.val) ∧
 ∃ n_Start35 : Int, ∃ n_Slots36 : Int, ∃ n_Backs37 : Int, ∃ n_Grow38 : Int, ∃ n_GrowBack39 : Int, ∃ s_Ins40 : Sl, ∃ s_Outs41 : Sl, ∃ n_Last42 : Int, ∃ s_Cells43 : Sl, held S33 ⟨b29, 0, none⟩ (.int .i64 n_Start35) ∧ held S33 ⟨b29, 1, none⟩ (.int .i64 n_Slots36) ∧ held S33 ⟨b29, 2, none⟩ (.int .i64 n_Backs37) ∧ held S33 ⟨b29, 3, none⟩ (.int .i64 n_Grow38) ∧ held S33 ⟨b29, 4, none⟩ (.int .i64 n_GrowBack39) ∧ held S33 ⟨b29, 5, none⟩ (s_Ins40.val) ∧ held S33 ⟨b29, 6, none⟩ (s_Outs41.val) ∧ held S33 ⟨b29, 7, none⟩ (.int .i64 n_Last42) ∧ held S33 ⟨b29, 8, none⟩ (s_Cells43.val) ∧
 (Calls Try.prog fn_slices_Delete_sl_api_Trace_api_Trace #[s34.val, .int .i64 n7, .int .i64 (wr (n7 + (1 : Int)))] w32 fun e44 w45 => ∃ s46 : Sl, e44 = .returned (s46.val) ∧
 S33 w45 ∧
 ∀ (b47 : Nat) (w48 : World), b47 = w45.heap.size → w48 = World.alloc w45 (.cells #[.int .i64 n_Start35, .int .i64 n_Slots36, .int .i64 n_Backs37, .int .i64 n_Grow38, .int .i64 n_GrowBack39, s_Ins40.val, s_Outs41.val, .int .i64 n_Last42, s_Cells43.val] T_api_Trace) →
 S33 w48 ∧
 ∃ s49 : Sl, ∃ w50 : World, (Builtin.append_ #[T_sl_api_Trace, T_sl_api_Trace] T_sl_api_Trace #[s46.val, .slice (some ⟨b47, 0, none⟩) 1 1]).run Try.prog w48 = .ok (s49.val) w50 ∧
 S33 w50 ∧
 wrOk w50 ⟨c_1, 1, none⟩ 1 ∧ ∀ w51 : World, w51 = stW w50 ⟨c_1, 1, none⟩ 0 [s49.val] →
 J7  w51) ∧
 (∀ (b52 : Nat) (w53 : World), b52 = w32.heap.size → w53 = World.alloc w32 (.cells #[.int .i64 n_Start35, .int .i64 n_Slots36, .int .i64 n_Backs37, .int .i64 n_Grow38, .int .i64 n_GrowBack39, s_Ins40.val, s_Outs41.val, .int .i64 n_Last42, s_Cells43.val] T_api_Trace) →
 S33 w53 ∧
 Calls Try.prog fn_slices_Delete_sl_api_Trace_api_Trace #[s34.val, .int .i64 n7, .int .i64 (wr (n7 + (1 : Int)))] w53 fun e54 w55 => ∃ s56 : Sl, e54 = .returned (s56.val) ∧
 S33 w55 ∧
 ∃ s57 : Sl, ∃ w58 : World, (Builtin.append_ #[T_sl_api_Trace, T_sl_api_Trace] T_sl_api_Trace #[s56.val, .slice (some ⟨b52, 0, none⟩) 1 1]).run Try.prog w55 = .ok (s57.val) w58 ∧
 S33 w58 ∧
 wrOk w58 ⟨c_1, 1, none⟩ 1 ∧ ∀ w59 : World, w59 = stW w58 ⟨c_1, 1, none⟩ 0 [s57.val] →
 J7  w59))
def cache_Cache_Get_an : An := ⟨[], [(5, (12, .st 0 (.st 1 (.st 2 (.st 3 (.st 4 (.st 5 (.st 6 (.st 7 (.st 9 (.two 8 (.ef 10 (.ef 11 .done)) 10 (.ef 8 (.ef 11 .done))))))))))), 1))], [(6, [])]⟩
theorem cache_Cache_Get_lift {c_1 : Nat} {start2 : Int} {w : World} {K : Value → World → Prop} (h : cache_Cache_Get_sh c_1 start2 w K) : Calls Try.prog fn_cache_Cache_Get #[.pointer (some ⟨c_1, 0, none⟩), .int .i64 start2] w fun e w' => ∃ v, e = .returned v ∧ K v w' :=
   lift_calls (A := cache_Cache_Get_an) (c := bodyOf Try.f19) (args := [.pointer (some ⟨c_1, 0, none⟩), .int .i64 start2]) orc orc_wide Try.func19 (by kernel_rfl) (by kernel_rfl) (Eq.mp (by kernel_rfl : cache_Cache_Get_sh c_1 start2 w K = wpc orc Try.f19.ntmps cache_Cache_Get_an (bodyOf Try.f19) (argl 0 [.pointer (some ⟨c_1, 0, none⟩), .int .i64 start2]) w (retQ orc Try.f19.results.toList K)) h)

-- (*holloway/cache.Cache).Eldest
def cache_Cache_Eldest_sh (c_1 : Nat) (w : World) (K : Value → World → Prop) : Prop :=
 Calls Try.prog fn_cache_Cache_Len #[.pointer (some ⟨c_1, 0, none⟩)] w fun e2 w3 => ∃ n4 : Int, e2 = .returned (.int .i64 n4) ∧
 brB (n4 == (0 : Int))
 (K (.tuple #[.int .i64 (0 : Int), .bool false]) w3)
 (∃ s5 : Sl, w3.cell? ⟨c_1, 1, none⟩ = some (s5.val) ∧
 ∃ a6 : Addr, s5.ptr = some a6 ∧ 0 ≤ (0 : Int) ∧ (0 : Int) < (s5.len : Int) ∧
 ∃ n7 : Int, w3.cell? (Addr.add a6 (Int.toNat (0 : Int) * 9)) = some (.int .i64 n7) ∧
 K (.tuple #[.int .i64 n7, .bool true]) w3)
def cache_Cache_Eldest_an : An := ⟨[], [], []⟩
theorem cache_Cache_Eldest_lift {c_1 : Nat} {w : World} {K : Value → World → Prop} (h : cache_Cache_Eldest_sh c_1 w K) : Calls Try.prog fn_cache_Cache_Eldest #[.pointer (some ⟨c_1, 0, none⟩)] w fun e w' => ∃ v, e = .returned v ∧ K v w' :=
   lift_calls (A := cache_Cache_Eldest_an) (c := bodyOf Try.f20) (args := [.pointer (some ⟨c_1, 0, none⟩)]) orc orc_wide Try.func20 (by kernel_rfl) (by kernel_rfl) (Eq.mp (by kernel_rfl : cache_Cache_Eldest_sh c_1 w K = wpc orc Try.f20.ntmps cache_Cache_Eldest_an (bodyOf Try.f20) (argl 0 [.pointer (some ⟨c_1, 0, none⟩)]) w (retQ orc Try.f20.results.toList K)) h)

-- (*holloway/cache.Cache).Drop
def cache_Cache_Drop_sh (c_1 : Nat) (start2 : Int) (w : World) (K : Value → World → Prop) : Prop :=
 Calls Try.prog fn_cache_Cache_place #[.pointer (some ⟨c_1, 0, none⟩), .int .i64 start2] w fun e3 w4 => ∃ n5 : Int, e3 = .returned (.int .i64 n5) ∧
 brB (decide (n5 < (0 : Int)))
 (K (.bool false) w4)
 (∃ s6 : Sl, w4.cell? ⟨c_1, 1, none⟩ = some (s6.val) ∧
 Calls Try.prog fn_slices_Delete_sl_api_Trace_api_Trace #[s6.val, .int .i64 n5, .int .i64 (wr (n5 + (1 : Int)))] w4 fun e7 w8 => ∃ s9 : Sl, e7 = .returned (s9.val) ∧
 wrOk w8 ⟨c_1, 1, none⟩ 1 ∧ ∀ w10 : World, w10 = stW w8 ⟨c_1, 1, none⟩ 0 [s9.val] →
 K (.bool true) w10)
def cache_Cache_Drop_an : An := ⟨[], [], []⟩
theorem cache_Cache_Drop_lift {c_1 : Nat} {start2 : Int} {w : World} {K : Value → World → Prop} (h : cache_Cache_Drop_sh c_1 start2 w K) : Calls Try.prog fn_cache_Cache_Drop #[.pointer (some ⟨c_1, 0, none⟩), .int .i64 start2] w fun e w' => ∃ v, e = .returned v ∧ K v w' :=
   lift_calls (A := cache_Cache_Drop_an) (c := bodyOf Try.f25) (args := [.pointer (some ⟨c_1, 0, none⟩), .int .i64 start2]) orc orc_wide Try.func25 (by kernel_rfl) (by kernel_rfl) (Eq.mp (by kernel_rfl : cache_Cache_Drop_sh c_1 start2 w K = wpc orc Try.f25.ntmps cache_Cache_Drop_an (bodyOf Try.f25) (argl 0 [.pointer (some ⟨c_1, 0, none⟩), .int .i64 start2]) w (retQ orc Try.f25.results.toList K)) h)

-- (*holloway/cache.Cache).place
def cache_Cache_place_sh (c_1 : Nat) (start2 : Int) (w : World) (K : Value → World → Prop) : Prop :=
 ∀ (b3 : Nat) (w4 : World), b3 = w.heap.size → w4 = World.alloc w (.cells #[.int .i64 start2] T_int) →
 ∃ s5 : Sl, w4.cell? ⟨c_1, 1, none⟩ = some (s5.val) ∧
 Calls Try.prog fn_slices_IndexFunc_sl_api_Trace_api_Trace #[s5.val, .func (.func fn_cache_Cache_place_1) #[] #[.pointer (some ⟨b3, 0, none⟩)]] w4 fun e6 w7 => ∃ n8 : Int, e6 = .returned (.int .i64 n8) ∧
 K (.int .i64 n8) w7
def cache_Cache_place_an : An := ⟨[], [], []⟩
theorem cache_Cache_place_lift {c_1 : Nat} {start2 : Int} {w : World} {K : Value → World → Prop} (h : cache_Cache_place_sh c_1 start2 w K) : Calls Try.prog fn_cache_Cache_place #[.pointer (some ⟨c_1, 0, none⟩), .int .i64 start2] w fun e w' => ∃ v, e = .returned v ∧ K v w' :=
   lift_calls (A := cache_Cache_place_an) (c := bodyOf Try.f57) (args := [.pointer (some ⟨c_1, 0, none⟩), .int .i64 start2]) orc orc_wide Try.func57 (by kernel_rfl) (by kernel_rfl) (Eq.mp (by kernel_rfl : cache_Cache_place_sh c_1 start2 w K = wpc orc Try.f57.ntmps cache_Cache_place_an (bodyOf Try.f57) (argl 0 [.pointer (some ⟨c_1, 0, none⟩), .int .i64 start2]) w (retQ orc Try.f57.results.toList K)) h)

-- holloway/cache.own
def cache_own_sh (t__Start1 : Int) (t__Slots2 : Int) (t__Backs3 : Int) (t__Grow4 : Int) (t__GrowBack5 : Int) (t__Ins6 : Sl) (t__Outs7 : Sl) (t__Last8 : Int) (t__Cells9 : Sl) (w : World) (K : Value → World → Prop) : Prop :=
 ∀ (b10 : Nat) (w11 : World), b10 = w.heap.size → w11 = World.alloc w (.cells #[.int .i64 t__Start1, .int .i64 t__Slots2, .int .i64 t__Backs3, .int .i64 t__Grow4, .int .i64 t__GrowBack5, t__Ins6.val, t__Outs7.val, .int .i64 t__Last8, t__Cells9.val] T_api_Trace) →
 ∀ (b12 : Nat) (w13 : World), b12 = w11.heap.size → w13 = World.alloc w11 (.cells #[.int .i64 (0 : Int), .int .i64 (0 : Int), .int .i64 (0 : Int), .int .i64 (0 : Int), .int .i64 (0 : Int), .slice none 0 0, .slice none 0 0, .int .i64 (0 : Int), .slice none 0 0] T_api_Trace) →
 ∀ w14 : World, w14 = World.drew w13 →
 ∃ S15 : World → Prop, S15 w14 ∧
 ∃ s16 : Sl, held S15 ⟨b10, 5, none⟩ (s16.val) ∧
 ∃ s17 : Sl, held S15 ⟨b10, 6, none⟩ (s17.val) ∧
 ∃ s18 : Sl, held S15 ⟨b10, 8, none⟩ (s18.val) ∧
 Calls Try.prog fn_slices_Clone_sl_api_Ins_api_Ins #[s16.val] w14 fun e19 w20 => ∃ s21 : Sl, e19 = .returned (s21.val) ∧
 S15 w20 ∧
 Calls Try.prog fn_slices_Clone_sl_api_Out_api_Out #[s17.val] w20 fun e22 w23 => ∃ s24 : Sl, e22 = .returned (s24.val) ∧
 S15 w23 ∧
 Calls Try.prog fn_slices_Clone_sl_int_int #[s18.val] w23 fun e25 w26 => ∃ s27 : Sl, e25 = .returned (s27.val) ∧
 S15 w26 ∧
 wrOk w26 ⟨b10, 5, none⟩ 1 ∧ ∀ w28 : World, w28 = stW w26 ⟨b10, 5, none⟩ 0 [s21.val] →
 wrOk w28 ⟨b10, 6, none⟩ 1 ∧ ∀ w29 : World, w29 = stW w28 ⟨b10, 6, none⟩ 0 [s24.val] →
 wrOk w29 ⟨b10, 8, none⟩ 1 ∧ ∀ w30 : World, w30 = stW w29 ⟨b10, 8, none⟩ 0 [s27.val] →
 ∃ s31 : Sl, w30.cell? ⟨b10, 6, none⟩ = some (s31.val) ∧
 ∃ (I1 : Int → World → Prop) (μ1 : Int → World → Nat), I1 (0 : Int) w30 ∧ ∀ (n33 : Int) (w32 : World), I1 n33 w32 →
 brB (decide (n33 < (s31.len : Int)))
 (∀ w34 : World, w34 = World.drew w32 →
 ∃ S35 : World → Prop, S35 w34 ∧
 ∃ s36 : Sl, held S35 ⟨b10, 6, none⟩ (s36.val) ∧
 ∃ s37 : Sl, held S35 ⟨b10, 6, none⟩ (s37.val) ∧
 ∃ s38 : Sl, held S35 ⟨b10, 6, none⟩ (s38.val) ∧
 ∃ a39 : Addr, s38.ptr = some a39 ∧ 0 ≤ n33 ∧ n33 < (s38.len : Int) ∧
 ∃ s40 : Sl, held S35 (Addr.add (Addr.add a39 (Int.toNat n33 * 4)) 2) (s40.val) ∧
 ∃ s41 : Sl, held S35 ⟨b10, 6, none⟩ (s41.val) ∧
 ∃ a42 : Addr, s41.ptr = some a42 ∧ 0 ≤ n33 ∧ n33 < (s41.len : Int) ∧
 ∃ s43 : Sl, held S35 (Addr.add (Addr.add a42 (Int.toNat n33 * 4)) 3) (s43.val) ∧
 Calls Try.prog fn_slices_Clone_sl_int_int #[s40.val] w34 fun e44 w45 => ∃ s46 : Sl, e44 = .returned (s46.val) ∧
 S35 w45 ∧
 Calls Try.prog fn_slices_Clone_sl_int_int #[s43.val] w45 fun e47 w48 => ∃ s49 : Sl, e47 = .returned (s49.val) ∧
 S35 w48 ∧
 ∃ a50 : Addr, s36.ptr = some a50 ∧ 0 ≤ n33 ∧ n33 < (s36.len : Int) ∧
 wrOk w48 (Addr.add (Addr.add a50 (Int.toNat n33 * 4)) 2) 1 ∧ ∀ w51 : World, w51 = stW w48 (Addr.add (Addr.add a50 (Int.toNat n33 * 4)) 2) 0 [s46.val] →
 S35 w51 ∧
 ∃ a52 : Addr, s37.ptr = some a52 ∧ 0 ≤ n33 ∧ n33 < (s37.len : Int) ∧
 wrOk w51 (Addr.add (Addr.add a52 (Int.toNat n33 * 4)) 3) 1 ∧ ∀ w53 : World, w53 = stW w51 (Addr.add (Addr.add a52 (Int.toNat n33 * 4)) 3) 0 [s49.val] →
 I1 (wr (n33 + (1 : Int))) w53 ∧ μ1 (wr (n33 + (1 : Int))) w53 < μ1 n33 w32)
 (∃ n_Start54 : Int, ∃ n_Slots55 : Int, ∃ n_Backs56 : Int, ∃ n_Grow57 : Int, ∃ n_GrowBack58 : Int, ∃ s_Ins59 : Sl, ∃ s_Outs60 : Sl, ∃ n_Last61 : Int, ∃ s_Cells62 : Sl, w32.cell? ⟨b10, 0, none⟩ = some (.int .i64 n_Start54) ∧ w32.cell? ⟨b10, 1, none⟩ = some (.int .i64 n_Slots55) ∧ w32.cell? ⟨b10, 2, none⟩ = some (.int .i64 n_Backs56) ∧ w32.cell? ⟨b10, 3, none⟩ = some (.int .i64 n_Grow57) ∧ w32.cell? ⟨b10, 4, none⟩ = some (.int .i64 n_GrowBack58) ∧ w32.cell? ⟨b10, 5, none⟩ = some (s_Ins59.val) ∧ w32.cell? ⟨b10, 6, none⟩ = some (s_Outs60.val) ∧ w32.cell? ⟨b10, 7, none⟩ = some (.int .i64 n_Last61) ∧ w32.cell? ⟨b10, 8, none⟩ = some (s_Cells62.val) ∧
 wrOk w32 ⟨b12, 0, none⟩ 9 ∧ ∀ w63 : World, w63 = stW w32 ⟨b12, 0, none⟩ 0 [.int .i64 n_Start54, .int .i64 n_Slots55, .int .i64 n_Backs56, .int .i64 n_Grow57, .int .i64 n_GrowBack58, s_Ins59.val, s_Outs60.val, .int .i64 n_Last61, s_Cells62.val] →
 ∃ r_Start64 : Int, ∃ r_Slots65 : Int, ∃ r_Backs66 : Int, ∃ r_Grow67 : Int, ∃ r_GrowBack68 : Int, ∃ r_Ins69 : Sl, ∃ r_Outs70 : Sl, ∃ r_Last71 : Int, ∃ r_Cells72 : Sl, w63.cell? ⟨b12, 0, none⟩ = some (.int .i64 r_Start64) ∧ w63.cell? ⟨b12, 1, none⟩ = some (.int .i64 r_Slots65) ∧ w63.cell? ⟨b12, 2, none⟩ = some (.int .i64 r_Backs66) ∧ w63.cell? ⟨b12, 3, none⟩ = some (.int .i64 r_Grow67) ∧ w63.cell? ⟨b12, 4, none⟩ = some (.int .i64 r_GrowBack68) ∧ w63.cell? ⟨b12, 5, none⟩ = some (r_Ins69.val) ∧ w63.cell? ⟨b12, 6, none⟩ = some (r_Outs70.val) ∧ w63.cell? ⟨b12, 7, none⟩ = some (.int .i64 r_Last71) ∧ w63.cell? ⟨b12, 8, none⟩ = some (r_Cells72.val) ∧
 K (.agg #[.int .i64 r_Start64, .int .i64 r_Slots65, .int .i64 r_Backs66, .int .i64 r_Grow67, .int .i64 r_GrowBack68, r_Ins69.val, r_Outs70.val, .int .i64 r_Last71, r_Cells72.val]) w63)
def cache_own_an : An := ⟨[(3, [(19, .int .i64)])], [(1, (10, .st 0 (.st 1 (.st 3 (.st 4 (.st 6 (.st 7 (.ef 2 (.st 9 (.ef 5 (.ef 8 .done))))))))), 1)), (5, (23, .st 0 (.st 1 (.st 2 (.st 3 (.st 4 (.st 5 (.st 6 (.st 7 (.st 8 (.st 9 (.st 10 (.st 11 (.st 13 (.st 14 (.st 15 (.st 16 (.st 17 (.st 18 (.ef 12 (.ef 19 (.st 20 (.st 21 (.ef 22 .done)))))))))))))))))))))), 1))], []⟩
theorem cache_own_lift {t__Start1 : Int} {t__Slots2 : Int} {t__Backs3 : Int} {t__Grow4 : Int} {t__GrowBack5 : Int} {t__Ins6 : Sl} {t__Outs7 : Sl} {t__Last8 : Int} {t__Cells9 : Sl} {w : World} {K : Value → World → Prop} (h : cache_own_sh t__Start1 t__Slots2 t__Backs3 t__Grow4 t__GrowBack5 t__Ins6 t__Outs7 t__Last8 t__Cells9 w K) : Calls Try.prog fn_cache_own #[.agg #[.int .i64 t__Start1, .int .i64 t__Slots2, .int .i64 t__Backs3, .int .i64 t__Grow4, .int .i64 t__GrowBack5, t__Ins6.val, t__Outs7.val, .int .i64 t__Last8, t__Cells9.val]] w fun e w' => ∃ v, e = .returned v ∧ K v w' :=
   lift_calls (A := cache_own_an) (c := bodyOf Try.f59) (args := [.agg #[.int .i64 t__Start1, .int .i64 t__Slots2, .int .i64 t__Backs3, .int .i64 t__Grow4, .int .i64 t__GrowBack5, t__Ins6.val, t__Outs7.val, .int .i64 t__Last8, t__Cells9.val]]) orc orc_wide Try.func59 (by kernel_rfl) (by kernel_rfl) (Eq.mp (by kernel_rfl : cache_own_sh t__Start1 t__Slots2 t__Backs3 t__Grow4 t__GrowBack5 t__Ins6 t__Outs7 t__Last8 t__Cells9 w K = wpc orc Try.f59.ntmps cache_own_an (bodyOf Try.f59) (argl 0 [.agg #[.int .i64 t__Start1, .int .i64 t__Slots2, .int .i64 t__Backs3, .int .i64 t__Grow4, .int .i64 t__GrowBack5, t__Ins6.val, t__Outs7.val, .int .i64 t__Last8, t__Cells9.val]]) w (retQ orc Try.f59.results.toList K)) h)

-- (*holloway/cache.Cache).place$1
def cache_Cache_place_1_sh (t__Start1 : Int) (t__Slots2 : Int) (t__Backs3 : Int) (t__Grow4 : Int) (t__GrowBack5 : Int) (t__Ins6 : Sl) (t__Outs7 : Sl) (t__Last8 : Int) (t__Cells9 : Sl) (c10 : Nat) (w : World) (K : Value → World → Prop) : Prop :=
 ∀ (b11 : Nat) (w12 : World), b11 = w.heap.size → w12 = World.alloc w (.cells #[.int .i64 t__Start1, .int .i64 t__Slots2, .int .i64 t__Backs3, .int .i64 t__Grow4, .int .i64 t__GrowBack5, t__Ins6.val, t__Outs7.val, .int .i64 t__Last8, t__Cells9.val] T_api_Trace) →
 ∃ n13 : Int, w12.cell? ⟨b11, 0, none⟩ = some (.int .i64 n13) ∧
 ∃ n14 : Int, w12.cell? ⟨c10, 0, none⟩ = some (.int .i64 n14) ∧
 K (.bool (n13 == n14)) w12
def cache_Cache_place_1_an : An := ⟨[], [], []⟩
theorem cache_Cache_place_1_lift {t__Start1 : Int} {t__Slots2 : Int} {t__Backs3 : Int} {t__Grow4 : Int} {t__GrowBack5 : Int} {t__Ins6 : Sl} {t__Outs7 : Sl} {t__Last8 : Int} {t__Cells9 : Sl} {c10 : Nat} {w : World} {K : Value → World → Prop} (h : cache_Cache_place_1_sh t__Start1 t__Slots2 t__Backs3 t__Grow4 t__GrowBack5 t__Ins6 t__Outs7 t__Last8 t__Cells9 c10 w K) : Calls Try.prog fn_cache_Cache_place_1 #[.agg #[.int .i64 t__Start1, .int .i64 t__Slots2, .int .i64 t__Backs3, .int .i64 t__Grow4, .int .i64 t__GrowBack5, t__Ins6.val, t__Outs7.val, .int .i64 t__Last8, t__Cells9.val], .pointer (some ⟨c10, 0, none⟩)] w fun e w' => ∃ v, e = .returned v ∧ K v w' :=
   lift_calls (A := cache_Cache_place_1_an) (c := bodyOf Try.f101) (args := [.agg #[.int .i64 t__Start1, .int .i64 t__Slots2, .int .i64 t__Backs3, .int .i64 t__Grow4, .int .i64 t__GrowBack5, t__Ins6.val, t__Outs7.val, .int .i64 t__Last8, t__Cells9.val], .pointer (some ⟨c10, 0, none⟩)]) orc orc_wide Try.func101 (by kernel_rfl) (by kernel_rfl) (Eq.mp (by kernel_rfl : cache_Cache_place_1_sh t__Start1 t__Slots2 t__Backs3 t__Grow4 t__GrowBack5 t__Ins6 t__Outs7 t__Last8 t__Cells9 c10 w K = wpc orc Try.f101.ntmps cache_Cache_place_1_an (bodyOf Try.f101) (argl 0 [.agg #[.int .i64 t__Start1, .int .i64 t__Slots2, .int .i64 t__Backs3, .int .i64 t__Grow4, .int .i64 t__GrowBack5, t__Ins6.val, t__Outs7.val, .int .i64 t__Last8, t__Cells9.val], .pointer (some ⟨c10, 0, none⟩)]) w (retQ orc Try.f101.results.toList K)) h)

-- (*holloway/cache.Cache).Put:nil
def cache_Cache_Put_nil_sh (t__Start1 : Int) (t__Slots2 : Int) (t__Backs3 : Int) (t__Grow4 : Int) (t__GrowBack5 : Int) (t__Ins6 : Sl) (t__Outs7 : Sl) (t__Last8 : Int) (t__Cells9 : Sl) (w : World) (K : Value → World → Prop) : Prop :=
 ∀ (b10 : Nat) (w11 : World), b10 = w.heap.size → w11 = World.alloc w (.cells #[.int .i64 t__Start1, .int .i64 t__Slots2, .int .i64 t__Backs3, .int .i64 t__Grow4, .int .i64 t__GrowBack5, t__Ins6.val, t__Outs7.val, .int .i64 t__Last8, t__Cells9.val] T_api_Trace) →
 K (.slice none 0 0) w11
def cache_Cache_Put_nil_an : An := ⟨[], [], []⟩
theorem cache_Cache_Put_nil_lift {t__Start1 : Int} {t__Slots2 : Int} {t__Backs3 : Int} {t__Grow4 : Int} {t__GrowBack5 : Int} {t__Ins6 : Sl} {t__Outs7 : Sl} {t__Last8 : Int} {t__Cells9 : Sl} {w : World} {K : Value → World → Prop} (h : cache_Cache_Put_nil_sh t__Start1 t__Slots2 t__Backs3 t__Grow4 t__GrowBack5 t__Ins6 t__Outs7 t__Last8 t__Cells9 w K) : Calls Try.prog fn_cache_Cache_Put #[.pointer none, .agg #[.int .i64 t__Start1, .int .i64 t__Slots2, .int .i64 t__Backs3, .int .i64 t__Grow4, .int .i64 t__GrowBack5, t__Ins6.val, t__Outs7.val, .int .i64 t__Last8, t__Cells9.val]] w fun e w' => ∃ v, e = .returned v ∧ K v w' :=
   lift_calls (A := cache_Cache_Put_nil_an) (c := bodyOf Try.f14) (args := [.pointer none, .agg #[.int .i64 t__Start1, .int .i64 t__Slots2, .int .i64 t__Backs3, .int .i64 t__Grow4, .int .i64 t__GrowBack5, t__Ins6.val, t__Outs7.val, .int .i64 t__Last8, t__Cells9.val]]) orc orc_wide Try.func14 (by kernel_rfl) (by kernel_rfl) (Eq.mp (by kernel_rfl : cache_Cache_Put_nil_sh t__Start1 t__Slots2 t__Backs3 t__Grow4 t__GrowBack5 t__Ins6 t__Outs7 t__Last8 t__Cells9 w K = wpc orc Try.f14.ntmps cache_Cache_Put_nil_an (bodyOf Try.f14) (argl 0 [.pointer none, .agg #[.int .i64 t__Start1, .int .i64 t__Slots2, .int .i64 t__Backs3, .int .i64 t__Grow4, .int .i64 t__GrowBack5, t__Ins6.val, t__Outs7.val, .int .i64 t__Last8, t__Cells9.val]]) w (retQ orc Try.f14.results.toList K)) h)

-- (*holloway/cache.Cache).Get:nil
def cache_Cache_Get_nil_sh (start1 : Int) (w : World) (K : Value → World → Prop) : Prop :=
 ∀ (b2 : Nat) (w3 : World), b2 = w.heap.size → w3 = World.alloc w (.cells #[.int .i64 (0 : Int), .int .i64 (0 : Int), .int .i64 (0 : Int), .int .i64 (0 : Int), .int .i64 (0 : Int), .slice none 0 0, .slice none 0 0, .int .i64 (0 : Int), .slice none 0 0] T_api_Trace) →
 Calls Try.prog fn_cache_Cache_place #[.pointer none, .int .i64 start1] w3 fun e4 w5 => ∃ n6 : Int, e4 = .returned (.int .i64 n6) ∧
 brB (decide (n6 < (0 : Int)))
 (wrOk w5 ⟨b2, 0, none⟩ 9 ∧ ∀ w7 : World, w7 = stW w5 ⟨b2, 0, none⟩ 0 [.int .i64 (0 : Int), .int .i64 (0 : Int), .int .i64 (0 : Int), .int .i64 (0 : Int), .int .i64 (0 : Int), .slice none 0 0, .slice none 0 0, .int .i64 (0 : Int), .slice none 0 0] →
 ∃ r_Start8 : Int, ∃ r_Slots9 : Int, ∃ r_Backs10 : Int, ∃ r_Grow11 : Int, ∃ r_GrowBack12 : Int, ∃ r_Ins13 : Sl, ∃ r_Outs14 : Sl, ∃ r_Last15 : Int, ∃ r_Cells16 : Sl, w7.cell? ⟨b2, 0, none⟩ = some (.int .i64 r_Start8) ∧ w7.cell? ⟨b2, 1, none⟩ = some (.int .i64 r_Slots9) ∧ w7.cell? ⟨b2, 2, none⟩ = some (.int .i64 r_Backs10) ∧ w7.cell? ⟨b2, 3, none⟩ = some (.int .i64 r_Grow11) ∧ w7.cell? ⟨b2, 4, none⟩ = some (.int .i64 r_GrowBack12) ∧ w7.cell? ⟨b2, 5, none⟩ = some (r_Ins13.val) ∧ w7.cell? ⟨b2, 6, none⟩ = some (r_Outs14.val) ∧ w7.cell? ⟨b2, 7, none⟩ = some (.int .i64 r_Last15) ∧ w7.cell? ⟨b2, 8, none⟩ = some (r_Cells16.val) ∧
 K (.tuple #[.agg #[.int .i64 r_Start8, .int .i64 r_Slots9, .int .i64 r_Backs10, .int .i64 r_Grow11, .int .i64 r_GrowBack12, r_Ins13.val, r_Outs14.val, .int .i64 r_Last15, r_Cells16.val], .bool false]) w7)
 (False)
def cache_Cache_Get_nil_an : An := ⟨[], [], []⟩
theorem cache_Cache_Get_nil_lift {start1 : Int} {w : World} {K : Value → World → Prop} (h : cache_Cache_Get_nil_sh start1 w K) : Calls Try.prog fn_cache_Cache_Get #[.pointer none, .int .i64 start1] w fun e w' => ∃ v, e = .returned v ∧ K v w' :=
   lift_calls (A := cache_Cache_Get_nil_an) (c := bodyOf Try.f19) (args := [.pointer none, .int .i64 start1]) orc orc_wide Try.func19 (by kernel_rfl) (by kernel_rfl) (Eq.mp (by kernel_rfl : cache_Cache_Get_nil_sh start1 w K = wpc orc Try.f19.ntmps cache_Cache_Get_nil_an (bodyOf Try.f19) (argl 0 [.pointer none, .int .i64 start1]) w (retQ orc Try.f19.results.toList K)) h)

-- (*holloway/cache.Cache).Has:nil
def cache_Cache_Has_nil_sh (start1 : Int) (w : World) (K : Value → World → Prop) : Prop :=
 Calls Try.prog fn_cache_Cache_place #[.pointer none, .int .i64 start1] w fun e2 w3 => ∃ n4 : Int, e2 = .returned (.int .i64 n4) ∧
 K (.bool (decide (n4 ≥ (0 : Int)))) w3
def cache_Cache_Has_nil_an : An := ⟨[], [], []⟩
theorem cache_Cache_Has_nil_lift {start1 : Int} {w : World} {K : Value → World → Prop} (h : cache_Cache_Has_nil_sh start1 w K) : Calls Try.prog fn_cache_Cache_Has #[.pointer none, .int .i64 start1] w fun e w' => ∃ v, e = .returned v ∧ K v w' :=
   lift_calls (A := cache_Cache_Has_nil_an) (c := bodyOf Try.f17) (args := [.pointer none, .int .i64 start1]) orc orc_wide Try.func17 (by kernel_rfl) (by kernel_rfl) (Eq.mp (by kernel_rfl : cache_Cache_Has_nil_sh start1 w K = wpc orc Try.f17.ntmps cache_Cache_Has_nil_an (bodyOf Try.f17) (argl 0 [.pointer none, .int .i64 start1]) w (retQ orc Try.f17.results.toList K)) h)

-- (*holloway/cache.Cache).Drop:nil
def cache_Cache_Drop_nil_sh (start1 : Int) (w : World) (K : Value → World → Prop) : Prop :=
 Calls Try.prog fn_cache_Cache_place #[.pointer none, .int .i64 start1] w fun e2 w3 => ∃ n4 : Int, e2 = .returned (.int .i64 n4) ∧
 brB (decide (n4 < (0 : Int)))
 (K (.bool false) w3)
 (False)
def cache_Cache_Drop_nil_an : An := ⟨[], [], []⟩
theorem cache_Cache_Drop_nil_lift {start1 : Int} {w : World} {K : Value → World → Prop} (h : cache_Cache_Drop_nil_sh start1 w K) : Calls Try.prog fn_cache_Cache_Drop #[.pointer none, .int .i64 start1] w fun e w' => ∃ v, e = .returned v ∧ K v w' :=
   lift_calls (A := cache_Cache_Drop_nil_an) (c := bodyOf Try.f25) (args := [.pointer none, .int .i64 start1]) orc orc_wide Try.func25 (by kernel_rfl) (by kernel_rfl) (Eq.mp (by kernel_rfl : cache_Cache_Drop_nil_sh start1 w K = wpc orc Try.f25.ntmps cache_Cache_Drop_nil_an (bodyOf Try.f25) (argl 0 [.pointer none, .int .i64 start1]) w (retQ orc Try.f25.results.toList K)) h)

-- (*holloway/cache.Cache).Len:nil
def cache_Cache_Len_nil_sh  (w : World) (K : Value → World → Prop) : Prop :=
 K (.int .i64 (0 : Int)) w
def cache_Cache_Len_nil_an : An := ⟨[], [], []⟩
theorem cache_Cache_Len_nil_lift  {w : World} {K : Value → World → Prop} (h : cache_Cache_Len_nil_sh  w K) : Calls Try.prog fn_cache_Cache_Len #[.pointer none] w fun e w' => ∃ v, e = .returned v ∧ K v w' :=
   lift_calls (A := cache_Cache_Len_nil_an) (c := bodyOf Try.f16) (args := [.pointer none]) orc orc_wide Try.func16 (by kernel_rfl) (by kernel_rfl) (Eq.mp (by kernel_rfl : cache_Cache_Len_nil_sh  w K = wpc orc Try.f16.ntmps cache_Cache_Len_nil_an (bodyOf Try.f16) (argl 0 [.pointer none]) w (retQ orc Try.f16.results.toList K)) h)

-- (*holloway/cache.Cache).Starts:nil
def cache_Cache_Starts_nil_sh  (w : World) (K : Value → World → Prop) : Prop :=
 K (.slice none 0 0) w
def cache_Cache_Starts_nil_an : An := ⟨[], [], []⟩
theorem cache_Cache_Starts_nil_lift  {w : World} {K : Value → World → Prop} (h : cache_Cache_Starts_nil_sh  w K) : Calls Try.prog fn_cache_Cache_Starts #[.pointer none] w fun e w' => ∃ v, e = .returned v ∧ K v w' :=
   lift_calls (A := cache_Cache_Starts_nil_an) (c := bodyOf Try.f18) (args := [.pointer none]) orc orc_wide Try.func18 (by kernel_rfl) (by kernel_rfl) (Eq.mp (by kernel_rfl : cache_Cache_Starts_nil_sh  w K = wpc orc Try.f18.ntmps cache_Cache_Starts_nil_an (bodyOf Try.f18) (argl 0 [.pointer none]) w (retQ orc Try.f18.results.toList K)) h)

-- (*holloway/cache.Cache).Eldest:nil
def cache_Cache_Eldest_nil_sh  (w : World) (K : Value → World → Prop) : Prop :=
 Calls Try.prog fn_cache_Cache_Len #[.pointer none] w fun e1 w2 => ∃ n3 : Int, e1 = .returned (.int .i64 n3) ∧
 brB (n3 == (0 : Int))
 (K (.tuple #[.int .i64 (0 : Int), .bool false]) w2)
 (False)
def cache_Cache_Eldest_nil_an : An := ⟨[], [], []⟩
theorem cache_Cache_Eldest_nil_lift  {w : World} {K : Value → World → Prop} (h : cache_Cache_Eldest_nil_sh  w K) : Calls Try.prog fn_cache_Cache_Eldest #[.pointer none] w fun e w' => ∃ v, e = .returned v ∧ K v w' :=
   lift_calls (A := cache_Cache_Eldest_nil_an) (c := bodyOf Try.f20) (args := [.pointer none]) orc orc_wide Try.func20 (by kernel_rfl) (by kernel_rfl) (Eq.mp (by kernel_rfl : cache_Cache_Eldest_nil_sh  w K = wpc orc Try.f20.ntmps cache_Cache_Eldest_nil_an (bodyOf Try.f20) (argl 0 [.pointer none]) w (retQ orc Try.f20.results.toList K)) h)

-- (*holloway/cache.Cache).place:nil
def cache_Cache_place_nil_sh (start1 : Int) (w : World) (K : Value → World → Prop) : Prop :=
 ∀ (b2 : Nat) (w3 : World), b2 = w.heap.size → w3 = World.alloc w (.cells #[.int .i64 start1] T_int) →
 K (.int .i64 (-1 : Int)) w3
def cache_Cache_place_nil_an : An := ⟨[], [], []⟩
theorem cache_Cache_place_nil_lift {start1 : Int} {w : World} {K : Value → World → Prop} (h : cache_Cache_place_nil_sh start1 w K) : Calls Try.prog fn_cache_Cache_place #[.pointer none, .int .i64 start1] w fun e w' => ∃ v, e = .returned v ∧ K v w' :=
   lift_calls (A := cache_Cache_place_nil_an) (c := bodyOf Try.f57) (args := [.pointer none, .int .i64 start1]) orc orc_wide Try.func57 (by kernel_rfl) (by kernel_rfl) (Eq.mp (by kernel_rfl : cache_Cache_place_nil_sh start1 w K = wpc orc Try.f57.ntmps cache_Cache_place_nil_an (bodyOf Try.f57) (argl 0 [.pointer none, .int .i64 start1]) w (retQ orc Try.f57.results.toList K)) h)

end Go.Proofs.Ytijoigpggphajaa
