/- Functions of Hollowaylaw14, read without their frames; that each is enough. Printed by a program of mine (wip/lift/gen.py). -/
import Derived.Test.YtblmoilneiffgaaOrc
set_option maxRecDepth 100000
namespace Go.Proofs.Ytblmoilneiffgaa
open Go.RowKit

-- holloway/hollowaylaw14.Light
def hollowaylaw14_Light_j1 (I1 : Int → World → Prop) (i13 : Int) (μ1 : Int → World → Nat) (w12 : World) (b10 : Nat) (b18 : Bool) (w17 : World) (K : Value → World → Prop) : Prop :=
 brB b18
 (∃ J7 : Bool → World → Prop, (∀ (b26 : Bool) (w25 : World), J7 b26 w25 →
 brB b26
 (K (.bool false) w25)
 (I1 (wr (i13 + (1 : Int))) w25 ∧ μ1 (wr (i13 + (1 : Int))) w25 < μ1 i13 w12)) ∧
 ∃ s19 : Sl, w17.cell? ⟨b10, 6, none⟩ = some (s19.val) ∧
 ∃ a20 : Addr, s19.ptr = some a20 ∧ 0 ≤ i13 ∧ i13 < (s19.len : Int) ∧
 ∃ s21 : Sl, w17.cell? (Addr.add (Addr.add a20 (Int.toNat i13 * 4)) 2) = some (s21.val) ∧
 brB (decide ((s21.len : Int) > (60 : Int)))
 (J7 true w17)
 (∃ s22 : Sl, w17.cell? ⟨b10, 6, none⟩ = some (s22.val) ∧
 ∃ a23 : Addr, s22.ptr = some a23 ∧ 0 ≤ i13 ∧ i13 < (s22.len : Int) ∧
 ∃ s24 : Sl, w17.cell? (Addr.add (Addr.add a23 (Int.toNat i13 * 4)) 3) = some (s24.val) ∧
 J7 (decide ((s24.len : Int) > (60 : Int))) w17))
 (∃ s27 : Sl, w17.cell? ⟨b10, 5, none⟩ = some (s27.val) ∧
 brB (decide ((s27.len : Int) ≤ (120 : Int)))
 (∃ s28 : Sl, w17.cell? ⟨b10, 6, none⟩ = some (s28.val) ∧
 brB (decide ((s28.len : Int) ≤ (60 : Int)))
 (∃ s29 : Sl, w17.cell? ⟨b10, 8, none⟩ = some (s29.val) ∧
 K (.bool (decide ((s29.len : Int) ≤ (100 : Int)))) w17)
 (K (.bool false) w17))
 (K (.bool false) w17))
def hollowaylaw14_Light_sh (t__Start1 : Int) (t__Slots2 : Int) (t__Backs3 : Int) (t__Grow4 : Int) (t__GrowBack5 : Int) (t__Ins6 : Sl) (t__Outs7 : Sl) (t__Last8 : Int) (t__Cells9 : Sl) (w : World) (K : Value → World → Prop) : Prop :=
 ∀ (b10 : Nat) (w11 : World), b10 = w.heap.size → w11 = World.alloc w (.cells #[.int .i64 t__Start1, .int .i64 t__Slots2, .int .i64 t__Backs3, .int .i64 t__Grow4, .int .i64 t__GrowBack5, t__Ins6.val, t__Outs7.val, .int .i64 t__Last8, t__Cells9.val] T_api_Trace) →
 ∃ (I1 : Int → World → Prop) (μ1 : Int → World → Nat), I1 (0 : Int) w11 ∧ ∀ (i13 : Int) (w12 : World), I1 i13 w12 →
 ∃ s14 : Sl, w12.cell? ⟨b10, 6, none⟩ = some (s14.val) ∧
 brB (decide (i13 < (s14.len : Int)))
 (hollowaylaw14_Light_j1 I1 i13 (μ1) w12 b10 (decide (i13 < (100 : Int))) w12 K)
 (hollowaylaw14_Light_j1 I1 i13 (μ1) w12 b10 false w12 K)
def hollowaylaw14_Light_an : An := ⟨[(2, [(3, .int .i64)])], [], [(5, [(32, .bool)])]⟩
theorem hollowaylaw14_Light_lift {t__Start1 : Int} {t__Slots2 : Int} {t__Backs3 : Int} {t__Grow4 : Int} {t__GrowBack5 : Int} {t__Ins6 : Sl} {t__Outs7 : Sl} {t__Last8 : Int} {t__Cells9 : Sl} {w : World} {K : Value → World → Prop} (h : hollowaylaw14_Light_sh t__Start1 t__Slots2 t__Backs3 t__Grow4 t__GrowBack5 t__Ins6 t__Outs7 t__Last8 t__Cells9 w K) : Calls Try.prog fn_hollowaylaw14_Light #[.agg #[.int .i64 t__Start1, .int .i64 t__Slots2, .int .i64 t__Backs3, .int .i64 t__Grow4, .int .i64 t__GrowBack5, t__Ins6.val, t__Outs7.val, .int .i64 t__Last8, t__Cells9.val]] w fun e w' => ∃ v, e = .returned v ∧ K v w' :=
   lift_calls (A := hollowaylaw14_Light_an) (c := bodyOf Try.f16) (args := [.agg #[.int .i64 t__Start1, .int .i64 t__Slots2, .int .i64 t__Backs3, .int .i64 t__Grow4, .int .i64 t__GrowBack5, t__Ins6.val, t__Outs7.val, .int .i64 t__Last8, t__Cells9.val]]) orc orc_wide Try.func16 (by kernel_rfl) (by kernel_rfl) (Eq.mp (by kernel_rfl : hollowaylaw14_Light_sh t__Start1 t__Slots2 t__Backs3 t__Grow4 t__GrowBack5 t__Ins6 t__Outs7 t__Last8 t__Cells9 w K = wpc orc Try.f16.ntmps hollowaylaw14_Light_an (bodyOf Try.f16) (argl 0 [.agg #[.int .i64 t__Start1, .int .i64 t__Slots2, .int .i64 t__Backs3, .int .i64 t__Grow4, .int .i64 t__GrowBack5, t__Ins6.val, t__Outs7.val, .int .i64 t__Last8, t__Cells9.val]]) w (retQ orc Try.f16.results.toList K)) h)

end Go.Proofs.Ytblmoilneiffgaa
