/- Functions of Slices, read without their frames; that each is enough. Printed by a program of mine (wip/lift/gen.py). -/
import Derived.Test.YtijoigpggphajaaOrc
set_option maxRecDepth 100000
namespace Go.Proofs.Ytijoigpggphajaa
open Go.RowKit

-- slices.Delete[[]holloway/api.Trace,holloway/api.Trace]
def slices_Delete_sl_api_Trace_api_Trace_sh (s_1 : Sl) (i_2 : Int) (j_3 : Int) (w : World) (K : Value → World → Prop) : Prop :=
 0 ≤ i_2 ∧ i_2 ≤ j_3 ∧ j_3 ≤ (s_1.len : Int) ∧ (s_1.len : Int) ≤ (s_1.cap : Int) ∧ ∀ s4 : Sl, s4 = Sl.sub s_1.ptr (Int.toNat (s_1.len : Int)) (Int.toNat i_2) (Int.toNat j_3) 9 →
 brB (i_2 == j_3)
 (K (s_1.val) w)
 (∀ w5 : World, w5 = World.drew w →
 0 ≤ i_2 ∧ i_2 ≤ (s_1.cap : Int) ∧ 
 0 ≤ j_3 ∧ j_3 ≤ (s_1.len : Int) ∧ 
 ∃ s6 : Sl, ∃ w7 : World, (Builtin.append_ #[T_sl_api_Trace, T_sl_api_Trace] T_sl_api_Trace #[(Sl.sub s_1.ptr s_1.cap 0 (Int.toNat i_2) 9).val, (Sl.sub s_1.ptr s_1.cap (Int.toNat j_3) s_1.len 9).val]).run Try.prog w5 = .ok (s6.val) w7 ∧
 0 ≤ (s6.len : Int) ∧ (s6.len : Int) ≤ (s_1.len : Int) ∧ (s_1.len : Int) ≤ (s6.cap : Int) ∧ ∀ s8 : Sl, s8 = Sl.sub s6.ptr s6.cap (Int.toNat (s6.len : Int)) (Int.toNat (s_1.len : Int)) 9 →
 ∃ v9 : Value, ∃ w10 : World, (Builtin.clear_ #[T_sl_api_Trace] T_x #[s8.val]).run Try.prog w7 = .ok v9 w10 ∧
 K (s6.val) w10)
def slices_Delete_sl_api_Trace_api_Trace_an : An := ⟨[], [(5, (6, .st 0 (.st 1 (.st 2 (.st 3 (.st 4 (.st 5 .done))))), 0))], []⟩
theorem slices_Delete_sl_api_Trace_api_Trace_lift {s_1 : Sl} {i_2 : Int} {j_3 : Int} {w : World} {K : Value → World → Prop} (h : slices_Delete_sl_api_Trace_api_Trace_sh s_1 i_2 j_3 w K) : Calls Try.prog fn_slices_Delete_sl_api_Trace_api_Trace #[s_1.val, .int .i64 i_2, .int .i64 j_3] w fun e w' => ∃ v, e = .returned v ∧ K v w' :=
   lift_calls (A := slices_Delete_sl_api_Trace_api_Trace_an) (c := bodyOf Try.f58) (args := [s_1.val, .int .i64 i_2, .int .i64 j_3]) orc orc_wide Try.func58 (by kernel_rfl) (by kernel_rfl) (Eq.mp (by kernel_rfl : slices_Delete_sl_api_Trace_api_Trace_sh s_1 i_2 j_3 w K = wpc orc Try.f58.ntmps slices_Delete_sl_api_Trace_api_Trace_an (bodyOf Try.f58) (argl 0 [s_1.val, .int .i64 i_2, .int .i64 j_3]) w (retQ orc Try.f58.results.toList K)) h)

-- slices.Clone[[]holloway/api.Word,holloway/api.Word]
def slices_Clone_sl_api_Word_api_Word_sh (s_1 : Sl) (w : World) (K : Value → World → Prop) : Prop :=
 brB (Option.isNone s_1.ptr)
 (K (.slice none 0 0) w)
 (∀ (b2 : Nat) (w3 : World), b2 = w.heap.size → w3 = World.alloc w (.cells #[] T_api_Word) →
 ∃ s4 : Sl, ∃ w5 : World, (Builtin.append_ #[T_sl_api_Word, T_sl_api_Word] T_sl_api_Word #[.slice (some ⟨b2, 0, none⟩) 0 0, s_1.val]).run Try.prog w3 = .ok (s4.val) w5 ∧
 K (s4.val) w5)
def slices_Clone_sl_api_Word_api_Word_an : An := ⟨[], [], []⟩
theorem slices_Clone_sl_api_Word_api_Word_lift {s_1 : Sl} {w : World} {K : Value → World → Prop} (h : slices_Clone_sl_api_Word_api_Word_sh s_1 w K) : Calls Try.prog fn_slices_Clone_sl_api_Word_api_Word #[s_1.val] w fun e w' => ∃ v, e = .returned v ∧ K v w' :=
   lift_calls (A := slices_Clone_sl_api_Word_api_Word_an) (c := bodyOf Try.f98) (args := [s_1.val]) orc orc_wide Try.func98 (by kernel_rfl) (by kernel_rfl) (Eq.mp (by kernel_rfl : slices_Clone_sl_api_Word_api_Word_sh s_1 w K = wpc orc Try.f98.ntmps slices_Clone_sl_api_Word_api_Word_an (bodyOf Try.f98) (argl 0 [s_1.val]) w (retQ orc Try.f98.results.toList K)) h)

-- slices.IndexFunc[[]holloway/api.Trace,holloway/api.Trace]
-- slices.IndexFunc[[]holloway/api.Trace,holloway/api.Trace]: not lifted: a call of a function that is not known

-- slices.Clone[[]holloway/api.Ins,holloway/api.Ins]
def slices_Clone_sl_api_Ins_api_Ins_sh (s_1 : Sl) (w : World) (K : Value → World → Prop) : Prop :=
 brB (Option.isNone s_1.ptr)
 (K (.slice none 0 0) w)
 (∀ (b2 : Nat) (w3 : World), b2 = w.heap.size → w3 = World.alloc w (.cells #[] T_api_Ins) →
 ∃ s4 : Sl, ∃ w5 : World, (Builtin.append_ #[T_sl_api_Ins, T_sl_api_Ins] T_sl_api_Ins #[.slice (some ⟨b2, 0, none⟩) 0 0, s_1.val]).run Try.prog w3 = .ok (s4.val) w5 ∧
 K (s4.val) w5)
def slices_Clone_sl_api_Ins_api_Ins_an : An := ⟨[], [], []⟩
theorem slices_Clone_sl_api_Ins_api_Ins_lift {s_1 : Sl} {w : World} {K : Value → World → Prop} (h : slices_Clone_sl_api_Ins_api_Ins_sh s_1 w K) : Calls Try.prog fn_slices_Clone_sl_api_Ins_api_Ins #[s_1.val] w fun e w' => ∃ v, e = .returned v ∧ K v w' :=
   lift_calls (A := slices_Clone_sl_api_Ins_api_Ins_an) (c := bodyOf Try.f102) (args := [s_1.val]) orc orc_wide Try.func102 (by kernel_rfl) (by kernel_rfl) (Eq.mp (by kernel_rfl : slices_Clone_sl_api_Ins_api_Ins_sh s_1 w K = wpc orc Try.f102.ntmps slices_Clone_sl_api_Ins_api_Ins_an (bodyOf Try.f102) (argl 0 [s_1.val]) w (retQ orc Try.f102.results.toList K)) h)

-- slices.Clone[[]holloway/api.Out,holloway/api.Out]
def slices_Clone_sl_api_Out_api_Out_sh (s_1 : Sl) (w : World) (K : Value → World → Prop) : Prop :=
 brB (Option.isNone s_1.ptr)
 (K (.slice none 0 0) w)
 (∀ (b2 : Nat) (w3 : World), b2 = w.heap.size → w3 = World.alloc w (.cells #[] T_api_Out) →
 ∃ s4 : Sl, ∃ w5 : World, (Builtin.append_ #[T_sl_api_Out, T_sl_api_Out] T_sl_api_Out #[.slice (some ⟨b2, 0, none⟩) 0 0, s_1.val]).run Try.prog w3 = .ok (s4.val) w5 ∧
 K (s4.val) w5)
def slices_Clone_sl_api_Out_api_Out_an : An := ⟨[], [], []⟩
theorem slices_Clone_sl_api_Out_api_Out_lift {s_1 : Sl} {w : World} {K : Value → World → Prop} (h : slices_Clone_sl_api_Out_api_Out_sh s_1 w K) : Calls Try.prog fn_slices_Clone_sl_api_Out_api_Out #[s_1.val] w fun e w' => ∃ v, e = .returned v ∧ K v w' :=
   lift_calls (A := slices_Clone_sl_api_Out_api_Out_an) (c := bodyOf Try.f103) (args := [s_1.val]) orc orc_wide Try.func103 (by kernel_rfl) (by kernel_rfl) (Eq.mp (by kernel_rfl : slices_Clone_sl_api_Out_api_Out_sh s_1 w K = wpc orc Try.f103.ntmps slices_Clone_sl_api_Out_api_Out_an (bodyOf Try.f103) (argl 0 [s_1.val]) w (retQ orc Try.f103.results.toList K)) h)

-- slices.Clone[[]int,int]
def slices_Clone_sl_int_int_sh (s_1 : Sl) (w : World) (K : Value → World → Prop) : Prop :=
 brB (Option.isNone s_1.ptr)
 (K (.slice none 0 0) w)
 (∀ (b2 : Nat) (w3 : World), b2 = w.heap.size → w3 = World.alloc w (.cells #[] T_int) →
 ∃ s4 : Sl, ∃ w5 : World, (Builtin.append_ #[T_sl_int, T_sl_int] T_sl_int #[.slice (some ⟨b2, 0, none⟩) 0 0, s_1.val]).run Try.prog w3 = .ok (s4.val) w5 ∧
 K (s4.val) w5)
def slices_Clone_sl_int_int_an : An := ⟨[], [], []⟩
theorem slices_Clone_sl_int_int_lift {s_1 : Sl} {w : World} {K : Value → World → Prop} (h : slices_Clone_sl_int_int_sh s_1 w K) : Calls Try.prog fn_slices_Clone_sl_int_int #[s_1.val] w fun e w' => ∃ v, e = .returned v ∧ K v w' :=
   lift_calls (A := slices_Clone_sl_int_int_an) (c := bodyOf Try.f104) (args := [s_1.val]) orc orc_wide Try.func104 (by kernel_rfl) (by kernel_rfl) (Eq.mp (by kernel_rfl : slices_Clone_sl_int_int_sh s_1 w K = wpc orc Try.f104.ntmps slices_Clone_sl_int_int_an (bodyOf Try.f104) (argl 0 [s_1.val]) w (retQ orc Try.f104.results.toList K)) h)

-- slices.IndexFunc[[]holloway/api.Trace,holloway/api.Trace]@@1=(*holloway/cache.Cache).place$1
def slices_IndexFunc_sl_api_Trace_api_Trace_at_cache_Cache_place_1_sh (s_1 : Sl) (c2 : Nat) (w : World) (K : Value → World → Prop) : Prop :=
 ∃ (I1 : Int → World → Prop) (μ1 : Int → World → Nat), I1 (0 : Int) w ∧ ∀ (n4 : Int) (w3 : World), I1 n4 w3 →
 brB (decide (n4 < (s_1.len : Int)))
 (∃ a5 : Addr, s_1.ptr = some a5 ∧ 0 ≤ n4 ∧ n4 < (s_1.len : Int) ∧
 ∃ n_Start6 : Int, ∃ n_Slots7 : Int, ∃ n_Backs8 : Int, ∃ n_Grow9 : Int, ∃ n_GrowBack10 : Int, ∃ s_Ins11 : Sl, ∃ s_Outs12 : Sl, ∃ n_Last13 : Int, ∃ s_Cells14 : Sl, w3.cell? (Addr.add a5 (Int.toNat n4 * 9)) = some (.int .i64 n_Start6) ∧ w3.cell? (Addr.add (Addr.add a5 (Int.toNat n4 * 9)) 1) = some (.int .i64 n_Slots7) ∧ w3.cell? (Addr.add (Addr.add a5 (Int.toNat n4 * 9)) 2) = some (.int .i64 n_Backs8) ∧ w3.cell? (Addr.add (Addr.add a5 (Int.toNat n4 * 9)) 3) = some (.int .i64 n_Grow9) ∧ w3.cell? (Addr.add (Addr.add a5 (Int.toNat n4 * 9)) 4) = some (.int .i64 n_GrowBack10) ∧ w3.cell? (Addr.add (Addr.add a5 (Int.toNat n4 * 9)) 5) = some (s_Ins11.val) ∧ w3.cell? (Addr.add (Addr.add a5 (Int.toNat n4 * 9)) 6) = some (s_Outs12.val) ∧ w3.cell? (Addr.add (Addr.add a5 (Int.toNat n4 * 9)) 7) = some (.int .i64 n_Last13) ∧ w3.cell? (Addr.add (Addr.add a5 (Int.toNat n4 * 9)) 8) = some (s_Cells14.val) ∧
 Calls Try.prog fn_cache_Cache_place_1 #[.agg #[.int .i64 n_Start6, .int .i64 n_Slots7, .int .i64 n_Backs8, .int .i64 n_Grow9, .int .i64 n_GrowBack10, s_Ins11.val, s_Outs12.val, .int .i64 n_Last13, s_Cells14.val], .pointer (some ⟨c2, 0, none⟩)] w3 fun e15 w16 => ∃ b17 : Bool, e15 = .returned (.bool b17) ∧
 brB b17
 (K (.int .i64 n4) w16)
 (I1 (wr (n4 + (1 : Int))) w16 ∧ μ1 (wr (n4 + (1 : Int))) w16 < μ1 n4 w3))
 (K (.int .i64 (-1 : Int)) w3)
def slices_IndexFunc_sl_api_Trace_api_Trace_at_cache_Cache_place_1_an : An := ⟨[(2, [(8, .int .i64)])], [], []⟩
theorem slices_IndexFunc_sl_api_Trace_api_Trace_at_cache_Cache_place_1_lift {s_1 : Sl} {c2 : Nat} {w : World} {K : Value → World → Prop} (h : slices_IndexFunc_sl_api_Trace_api_Trace_at_cache_Cache_place_1_sh s_1 c2 w K) : Calls Try.prog fn_slices_IndexFunc_sl_api_Trace_api_Trace #[s_1.val, .func (.func fn_cache_Cache_place_1) #[] #[.pointer (some ⟨c2, 0, none⟩)]] w fun e w' => ∃ v, e = .returned v ∧ K v w' :=
   lift_calls (A := slices_IndexFunc_sl_api_Trace_api_Trace_at_cache_Cache_place_1_an) (c := bodyOf Try.f100) (args := [s_1.val, .func (.func fn_cache_Cache_place_1) #[] #[.pointer (some ⟨c2, 0, none⟩)]]) orc orc_wide Try.func100 (by kernel_rfl) (by kernel_rfl) (Eq.mp (by kernel_rfl : slices_IndexFunc_sl_api_Trace_api_Trace_at_cache_Cache_place_1_sh s_1 c2 w K = wpc orc Try.f100.ntmps slices_IndexFunc_sl_api_Trace_api_Trace_at_cache_Cache_place_1_an (bodyOf Try.f100) (argl 0 [s_1.val, .func (.func fn_cache_Cache_place_1) #[] #[.pointer (some ⟨c2, 0, none⟩)]]) w (retQ orc Try.f100.results.toList K)) h)

end Go.Proofs.Ytijoigpggphajaa
