/- Functions of Pile, read without their frames; that each is enough. Printed by a program of mine (wip/lift/gen.py). -/
import Derived.Test.YticdjlkpkhahfaaOrc
set_option maxRecDepth 100000
namespace Go.Proofs.Yticdjlkpkhahfaa
open Go.RowKit

-- holloway/pile.New
def pile_New_sh (most1 : Int) (l_2 : Sl) (w : World) (K : Value → World → Prop) : Prop :=
 0 ≤ (imin (l_2.len : Int) (imin (imax most1 (0 : Int)) (1000 : Int))) ∧ (imin (l_2.len : Int) (imin (imax most1 (0 : Int)) (1000 : Int))) ≤ (l_2.cap : Int) ∧ ∀ s3 : Sl, s3 = Sl.sub l_2.ptr l_2.cap 0 (Int.toNat (imin (l_2.len : Int) (imin (imax most1 (0 : Int)) (1000 : Int)))) 1 →
 Calls Try.prog fn_slices_Clone_sl_int_int #[s3.val] w fun e4 w5 => ∃ s6 : Sl, e4 = .returned (s6.val) ∧
 ∀ (b7 : Nat) (w8 : World), b7 = w5.heap.size → w8 = World.alloc w5 (.cells #[.int .i64 (imin (imax most1 (0 : Int)) (1000 : Int)), s6.val] T_pile_Pile) →
 K (.pointer (some ⟨b7, 0, none⟩)) w8
def pile_New_an : An := ⟨[], [], []⟩
theorem pile_New_lift {most1 : Int} {l_2 : Sl} {w : World} {K : Value → World → Prop} (h : pile_New_sh most1 l_2 w K) : Calls Try.prog fn_pile_New #[.int .i64 most1, l_2.val] w fun e w' => ∃ v, e = .returned v ∧ K v w' :=
   lift_calls (A := pile_New_an) (c := bodyOf Try.f6) (args := [.int .i64 most1, l_2.val]) orc orc_wide Try.func6 (by kernel_rfl) (by kernel_rfl) (Eq.mp (by kernel_rfl : pile_New_sh most1 l_2 w K = wpc orc Try.f6.ntmps pile_New_an (bodyOf Try.f6) (argl 0 [.int .i64 most1, l_2.val]) w (retQ orc Try.f6.results.toList K)) h)

-- (*holloway/pile.Pile).Push
def pile_Pile_Push_sh (p_1 : Nat) (l_2 : Sl) (w : World) (K : Value → World → Prop) : Prop :=
 ∀ w3 : World, w3 = World.drew w →
 ∃ n4 : Int, held (Lw w3) ⟨p_1, 0, none⟩ (.int .i64 n4) ∧
 ∃ s5 : Sl, held (Lw w3) ⟨p_1, 1, none⟩ (s5.val) ∧
 brB (decide ((l_2.len : Int) > (wr (n4 - (s5.len : Int)))))
 (K (.bool false) w3)
 (∃ s6 : Sl, w3.cell? ⟨p_1, 1, none⟩ = some (s6.val) ∧
 ∃ s7 : Sl, ∃ w8 : World, (Builtin.append_ #[T_sl_int, T_sl_int] T_sl_int #[s6.val, l_2.val]).run Try.prog w3 = .ok (s7.val) w8 ∧
 wrOk w8 ⟨p_1, 1, none⟩ 1 ∧ ∀ w9 : World, w9 = stW w8 ⟨p_1, 1, none⟩ 0 [s7.val] →
 K (.bool true) w9)
def pile_Pile_Push_an : An := ⟨[], [(1, (17, .st 0 (.st 1 (.st 2 (.st 3 (.st 4 (.st 5 (.st 6 (.st 7 (.st 8 (.st 9 (.st 10 (.st 11 (.st 12 (.st 13 (.st 14 (.st 15 (.st 16 .done)))))))))))))))), 0))], []⟩
theorem pile_Pile_Push_lift {p_1 : Nat} {l_2 : Sl} {w : World} {K : Value → World → Prop} (h : pile_Pile_Push_sh p_1 l_2 w K) : Calls Try.prog fn_pile_Pile_Push #[.pointer (some ⟨p_1, 0, none⟩), l_2.val] w fun e w' => ∃ v, e = .returned v ∧ K v w' :=
   lift_calls (A := pile_Pile_Push_an) (c := bodyOf Try.f8) (args := [.pointer (some ⟨p_1, 0, none⟩), l_2.val]) orc orc_wide Try.func8 (by kernel_rfl) (by kernel_rfl) (Eq.mp (by kernel_rfl : pile_Pile_Push_sh p_1 l_2 w K = wpc orc Try.f8.ntmps pile_Pile_Push_an (bodyOf Try.f8) (argl 0 [.pointer (some ⟨p_1, 0, none⟩), l_2.val]) w (retQ orc Try.f8.results.toList K)) h)

-- (*holloway/pile.Pile).Pop
def pile_Pile_Pop_sh (p_1 : Nat) (n_2 : Int) (w : World) (K : Value → World → Prop) : Prop :=
 ∃ J3 : Bool → World → Prop, (∀ (b5 : Bool) (w4 : World), J3 b5 w4 →
 brB b5
 (K (.tuple #[.slice none 0 0, .bool false]) w4)
 (∃ s6 : Sl, w4.cell? ⟨p_1, 1, none⟩ = some (s6.val) ∧
 ∃ s7 : Sl, w4.cell? ⟨p_1, 1, none⟩ = some (s7.val) ∧
 0 ≤ (wr ((s6.len : Int) - n_2)) ∧ (wr ((s6.len : Int) - n_2)) ≤ (s7.len : Int) ∧ ∀ s8 : Sl, s8 = Sl.sub s7.ptr s7.cap (Int.toNat (wr ((s6.len : Int) - n_2))) s7.len 1 →
 Calls Try.prog fn_slices_Clone_sl_int_int #[s8.val] w4 fun e9 w10 => ∃ s11 : Sl, e9 = .returned (s11.val) ∧
 ∃ s12 : Sl, w10.cell? ⟨p_1, 1, none⟩ = some (s12.val) ∧
 0 ≤ (wr ((s6.len : Int) - n_2)) ∧ (wr ((s6.len : Int) - n_2)) ≤ (s12.cap : Int) ∧ ∀ s13 : Sl, s13 = Sl.sub s12.ptr s12.cap 0 (Int.toNat (wr ((s6.len : Int) - n_2))) 1 →
 wrOk w10 ⟨p_1, 1, none⟩ 1 ∧ ∀ w14 : World, w14 = stW w10 ⟨p_1, 1, none⟩ 0 [s13.val] →
 K (.tuple #[s11.val, .bool true]) w14)) ∧
 brB (decide (n_2 < (0 : Int)))
 (J3 true w)
 (∃ s3 : Sl, w.cell? ⟨p_1, 1, none⟩ = some (s3.val) ∧
 J3 (decide (n_2 > (s3.len : Int))) w)
def pile_Pile_Pop_an : An := ⟨[], [], [(2, [(22, .bool)])]⟩
theorem pile_Pile_Pop_lift {p_1 : Nat} {n_2 : Int} {w : World} {K : Value → World → Prop} (h : pile_Pile_Pop_sh p_1 n_2 w K) : Calls Try.prog fn_pile_Pile_Pop #[.pointer (some ⟨p_1, 0, none⟩), .int .i64 n_2] w fun e w' => ∃ v, e = .returned v ∧ K v w' :=
   lift_calls (A := pile_Pile_Pop_an) (c := bodyOf Try.f9) (args := [.pointer (some ⟨p_1, 0, none⟩), .int .i64 n_2]) orc orc_wide Try.func9 (by kernel_rfl) (by kernel_rfl) (Eq.mp (by kernel_rfl : pile_Pile_Pop_sh p_1 n_2 w K = wpc orc Try.f9.ntmps pile_Pile_Pop_an (bodyOf Try.f9) (argl 0 [.pointer (some ⟨p_1, 0, none⟩), .int .i64 n_2]) w (retQ orc Try.f9.results.toList K)) h)

-- (*holloway/pile.Pile).Set
def pile_Pile_Set_sh (p_1 : Nat) (k_2 : Int) (v_3 : Int) (w : World) (K : Value → World → Prop) : Prop :=
 Calls Try.prog fn_pile_Pile_place #[.pointer (some ⟨p_1, 0, none⟩), .int .i64 k_2] w fun e4 w5 => ∃ n6 : Int, e4 = .returned (.int .i64 n6) ∧
 brB (decide (n6 < (0 : Int)))
 (K (.bool false) w5)
 (∃ s7 : Sl, w5.cell? ⟨p_1, 1, none⟩ = some (s7.val) ∧
 ∃ a8 : Addr, s7.ptr = some a8 ∧ 0 ≤ n6 ∧ n6 < (s7.len : Int) ∧
 wrOk w5 (Addr.add a8 (Int.toNat n6 * 1)) 1 ∧ ∀ w9 : World, w9 = stW w5 (Addr.add a8 (Int.toNat n6 * 1)) 0 [.int .i64 v_3] →
 K (.bool true) w9)
def pile_Pile_Set_an : An := ⟨[], [], []⟩
theorem pile_Pile_Set_lift {p_1 : Nat} {k_2 : Int} {v_3 : Int} {w : World} {K : Value → World → Prop} (h : pile_Pile_Set_sh p_1 k_2 v_3 w K) : Calls Try.prog fn_pile_Pile_Set #[.pointer (some ⟨p_1, 0, none⟩), .int .i64 k_2, .int .i64 v_3] w fun e w' => ∃ v, e = .returned v ∧ K v w' :=
   lift_calls (A := pile_Pile_Set_an) (c := bodyOf Try.f12) (args := [.pointer (some ⟨p_1, 0, none⟩), .int .i64 k_2, .int .i64 v_3]) orc orc_wide Try.func12 (by kernel_rfl) (by kernel_rfl) (Eq.mp (by kernel_rfl : pile_Pile_Set_sh p_1 k_2 v_3 w K = wpc orc Try.f12.ntmps pile_Pile_Set_an (bodyOf Try.f12) (argl 0 [.pointer (some ⟨p_1, 0, none⟩), .int .i64 k_2, .int .i64 v_3]) w (retQ orc Try.f12.results.toList K)) h)

-- (*holloway/pile.Pile).Cut
def pile_Pile_Cut_sh (p_1 : Nat) (n_2 : Int) (w : World) (K : Value → World → Prop) : Prop :=
 ∃ J3 : Bool → World → Prop, (∀ (b5 : Bool) (w4 : World), J3 b5 w4 →
 brB b5
 (K (.bool false) w4)
 (∃ J6 : World → Prop, (∀ (w10 : World), J6  w10 →
 ∀ w11 : World, w11 = World.drew w10 →
 ∃ S12 : World → Prop, S12 w11 ∧
 ∃ s13 : Sl, held S12 ⟨p_1, 1, none⟩ (s13.val) ∧
 ∃ s14 : Sl, held S12 ⟨p_1, 1, none⟩ (s14.val) ∧
 ∃ s15 : Sl, ∃ w16 : World, (Builtin.append_ #[T_sl_int, T_int] T_sl_int #[s13.val, .int .i64 (wr (n_2 - (s14.len : Int)))]).run Try.prog w11 = .ok (s15.val) w16 ∧
 S12 w16 ∧
 wrOk w16 ⟨p_1, 1, none⟩ 1 ∧ ∀ w17 : World, w17 = stW w16 ⟨p_1, 1, none⟩ 0 [s15.val] →
 K (.bool true) w17) ∧
 ∃ s6 : Sl, w4.cell? ⟨p_1, 1, none⟩ = some (s6.val) ∧
 brB (decide (n_2 < (s6.len : Int)))
 (∃ s7 : Sl, w4.cell? ⟨p_1, 1, none⟩ = some (s7.val) ∧
 0 ≤ n_2 ∧ n_2 ≤ (s7.cap : Int) ∧ ∀ s8 : Sl, s8 = Sl.sub s7.ptr s7.cap 0 (Int.toNat n_2) 1 →
 wrOk w4 ⟨p_1, 1, none⟩ 1 ∧ ∀ w9 : World, w9 = stW w4 ⟨p_1, 1, none⟩ 0 [s8.val] →
 J6  w9)
 (J6  w4))) ∧
 brB (decide (n_2 < (0 : Int)))
 (J3 true w)
 (∃ n3 : Int, w.cell? ⟨p_1, 0, none⟩ = some (.int .i64 n3) ∧
 J3 (decide (n_2 > n3)) w)
def pile_Pile_Cut_an : An := ⟨[], [(5, (13, .st 0 (.st 1 (.st 2 (.st 3 (.st 4 (.st 5 (.st 6 (.st 7 (.st 8 (.st 9 (.st 10 (.st 11 (.ef 12 .done)))))))))))), 1))], [(2, [(18, .bool)]), (5, [])]⟩
theorem pile_Pile_Cut_lift {p_1 : Nat} {n_2 : Int} {w : World} {K : Value → World → Prop} (h : pile_Pile_Cut_sh p_1 n_2 w K) : Calls Try.prog fn_pile_Pile_Cut #[.pointer (some ⟨p_1, 0, none⟩), .int .i64 n_2] w fun e w' => ∃ v, e = .returned v ∧ K v w' :=
   lift_calls (A := pile_Pile_Cut_an) (c := bodyOf Try.f13) (args := [.pointer (some ⟨p_1, 0, none⟩), .int .i64 n_2]) orc orc_wide Try.func13 (by kernel_rfl) (by kernel_rfl) (Eq.mp (by kernel_rfl : pile_Pile_Cut_sh p_1 n_2 w K = wpc orc Try.f13.ntmps pile_Pile_Cut_an (bodyOf Try.f13) (argl 0 [.pointer (some ⟨p_1, 0, none⟩), .int .i64 n_2]) w (retQ orc Try.f13.results.toList K)) h)

-- (*holloway/pile.Pile).Copy
def pile_Pile_Copy_sh (p_1 : Nat) (w : World) (K : Value → World → Prop) : Prop :=
 ∀ w2 : World, w2 = World.drew w →
 ∃ S3 : World → Prop, S3 w2 ∧
 ∃ n4 : Int, held S3 ⟨p_1, 0, none⟩ (.int .i64 n4) ∧
 Calls Try.prog fn_pile_Pile_All #[.pointer (some ⟨p_1, 0, none⟩)] w2 fun e5 w6 => ∃ s7 : Sl, e5 = .returned (s7.val) ∧
 S3 w6 ∧
 ∀ (b8 : Nat) (w9 : World), b8 = w6.heap.size → w9 = World.alloc w6 (.cells #[.int .i64 n4, s7.val] T_pile_Pile) →
 K (.pointer (some ⟨b8, 0, none⟩)) w9
def pile_Pile_Copy_an : An := ⟨[], [(3, (6, .st 0 (.st 1 (.st 2 (.st 3 (.st 4 (.ef 5 .done))))), 1))], []⟩
theorem pile_Pile_Copy_lift {p_1 : Nat} {w : World} {K : Value → World → Prop} (h : pile_Pile_Copy_sh p_1 w K) : Calls Try.prog fn_pile_Pile_Copy #[.pointer (some ⟨p_1, 0, none⟩)] w fun e w' => ∃ v, e = .returned v ∧ K v w' :=
   lift_calls (A := pile_Pile_Copy_an) (c := bodyOf Try.f14) (args := [.pointer (some ⟨p_1, 0, none⟩)]) orc orc_wide Try.func14 (by kernel_rfl) (by kernel_rfl) (Eq.mp (by kernel_rfl : pile_Pile_Copy_sh p_1 w K = wpc orc Try.f14.ntmps pile_Pile_Copy_an (bodyOf Try.f14) (argl 0 [.pointer (some ⟨p_1, 0, none⟩)]) w (retQ orc Try.f14.results.toList K)) h)

-- (*holloway/pile.Pile).All
def pile_Pile_All_sh (p_1 : Nat) (w : World) (K : Value → World → Prop) : Prop :=
 ∃ s2 : Sl, w.cell? ⟨p_1, 1, none⟩ = some (s2.val) ∧
 Calls Try.prog fn_slices_Clone_sl_int_int #[s2.val] w fun e3 w4 => ∃ s5 : Sl, e3 = .returned (s5.val) ∧
 K (s5.val) w4
def pile_Pile_All_an : An := ⟨[], [], []⟩
theorem pile_Pile_All_lift {p_1 : Nat} {w : World} {K : Value → World → Prop} (h : pile_Pile_All_sh p_1 w K) : Calls Try.prog fn_pile_Pile_All #[.pointer (some ⟨p_1, 0, none⟩)] w fun e w' => ∃ v, e = .returned v ∧ K v w' :=
   lift_calls (A := pile_Pile_All_an) (c := bodyOf Try.f15) (args := [.pointer (some ⟨p_1, 0, none⟩)]) orc orc_wide Try.func15 (by kernel_rfl) (by kernel_rfl) (Eq.mp (by kernel_rfl : pile_Pile_All_sh p_1 w K = wpc orc Try.f15.ntmps pile_Pile_All_an (bodyOf Try.f15) (argl 0 [.pointer (some ⟨p_1, 0, none⟩)]) w (retQ orc Try.f15.results.toList K)) h)

-- (*holloway/pile.Pile).Peek
def pile_Pile_Peek_sh (p_1 : Nat) (k_2 : Int) (w : World) (K : Value → World → Prop) : Prop :=
 Calls Try.prog fn_pile_Pile_place #[.pointer (some ⟨p_1, 0, none⟩), .int .i64 k_2] w fun e3 w4 => ∃ n5 : Int, e3 = .returned (.int .i64 n5) ∧
 brB (decide (n5 < (0 : Int)))
 (K (.tuple #[.int .i64 (0 : Int), .bool false]) w4)
 (∃ s6 : Sl, w4.cell? ⟨p_1, 1, none⟩ = some (s6.val) ∧
 ∃ a7 : Addr, s6.ptr = some a7 ∧ 0 ≤ n5 ∧ n5 < (s6.len : Int) ∧
 ∃ n8 : Int, w4.cell? (Addr.add a7 (Int.toNat n5 * 1)) = some (.int .i64 n8) ∧
 K (.tuple #[.int .i64 n8, .bool true]) w4)
def pile_Pile_Peek_an : An := ⟨[], [], []⟩
theorem pile_Pile_Peek_lift {p_1 : Nat} {k_2 : Int} {w : World} {K : Value → World → Prop} (h : pile_Pile_Peek_sh p_1 k_2 w K) : Calls Try.prog fn_pile_Pile_Peek #[.pointer (some ⟨p_1, 0, none⟩), .int .i64 k_2] w fun e w' => ∃ v, e = .returned v ∧ K v w' :=
   lift_calls (A := pile_Pile_Peek_an) (c := bodyOf Try.f16) (args := [.pointer (some ⟨p_1, 0, none⟩), .int .i64 k_2]) orc orc_wide Try.func16 (by kernel_rfl) (by kernel_rfl) (Eq.mp (by kernel_rfl : pile_Pile_Peek_sh p_1 k_2 w K = wpc orc Try.f16.ntmps pile_Pile_Peek_an (bodyOf Try.f16) (argl 0 [.pointer (some ⟨p_1, 0, none⟩), .int .i64 k_2]) w (retQ orc Try.f16.results.toList K)) h)

-- (*holloway/pile.Pile).Len
def pile_Pile_Len_sh (p_1 : Nat) (w : World) (K : Value → World → Prop) : Prop :=
 ∃ s2 : Sl, w.cell? ⟨p_1, 1, none⟩ = some (s2.val) ∧
 K (.int .i64 (s2.len : Int)) w
def pile_Pile_Len_an : An := ⟨[], [], []⟩
theorem pile_Pile_Len_lift {p_1 : Nat} {w : World} {K : Value → World → Prop} (h : pile_Pile_Len_sh p_1 w K) : Calls Try.prog fn_pile_Pile_Len #[.pointer (some ⟨p_1, 0, none⟩)] w fun e w' => ∃ v, e = .returned v ∧ K v w' :=
   lift_calls (A := pile_Pile_Len_an) (c := bodyOf Try.f17) (args := [.pointer (some ⟨p_1, 0, none⟩)]) orc orc_wide Try.func17 (by kernel_rfl) (by kernel_rfl) (Eq.mp (by kernel_rfl : pile_Pile_Len_sh p_1 w K = wpc orc Try.f17.ntmps pile_Pile_Len_an (bodyOf Try.f17) (argl 0 [.pointer (some ⟨p_1, 0, none⟩)]) w (retQ orc Try.f17.results.toList K)) h)

-- (*holloway/pile.Pile).place
def pile_Pile_place_sh (p_1 : Nat) (k_2 : Int) (w : World) (K : Value → World → Prop) : Prop :=
 ∃ J3 : Bool → World → Prop, (∀ (b5 : Bool) (w4 : World), J3 b5 w4 →
 brB b5
 (K (.int .i64 (-1 : Int)) w4)
 (∃ s6 : Sl, w4.cell? ⟨p_1, 1, none⟩ = some (s6.val) ∧
 K (.int .i64 (wr ((wr ((s6.len : Int) - (1 : Int))) - k_2))) w4)) ∧
 brB (decide (k_2 < (0 : Int)))
 (J3 true w)
 (∃ s3 : Sl, w.cell? ⟨p_1, 1, none⟩ = some (s3.val) ∧
 J3 (decide (k_2 ≥ (s3.len : Int))) w)
def pile_Pile_place_an : An := ⟨[], [], [(2, [(19, .bool)])]⟩
theorem pile_Pile_place_lift {p_1 : Nat} {k_2 : Int} {w : World} {K : Value → World → Prop} (h : pile_Pile_place_sh p_1 k_2 w K) : Calls Try.prog fn_pile_Pile_place #[.pointer (some ⟨p_1, 0, none⟩), .int .i64 k_2] w fun e w' => ∃ v, e = .returned v ∧ K v w' :=
   lift_calls (A := pile_Pile_place_an) (c := bodyOf Try.f21) (args := [.pointer (some ⟨p_1, 0, none⟩), .int .i64 k_2]) orc orc_wide Try.func21 (by kernel_rfl) (by kernel_rfl) (Eq.mp (by kernel_rfl : pile_Pile_place_sh p_1 k_2 w K = wpc orc Try.f21.ntmps pile_Pile_place_an (bodyOf Try.f21) (argl 0 [.pointer (some ⟨p_1, 0, none⟩), .int .i64 k_2]) w (retQ orc Try.f21.results.toList K)) h)

-- (*holloway/pile.Pile).Push:nil
def pile_Pile_Push_nil_sh (l_1 : Sl) (w : World) (K : Value → World → Prop) : Prop :=
 ∀ w2 : World, w2 = World.drew w →
 K (.bool false) w2
def pile_Pile_Push_nil_an : An := ⟨[], [(1, (17, .st 0 (.st 1 (.st 2 (.st 3 (.st 4 (.st 5 (.st 6 (.st 7 (.st 8 (.st 9 (.st 10 (.st 11 (.st 12 (.st 13 (.st 14 (.st 15 (.st 16 .done)))))))))))))))), 0))], []⟩
theorem pile_Pile_Push_nil_lift {l_1 : Sl} {w : World} {K : Value → World → Prop} (h : pile_Pile_Push_nil_sh l_1 w K) : Calls Try.prog fn_pile_Pile_Push #[.pointer none, l_1.val] w fun e w' => ∃ v, e = .returned v ∧ K v w' :=
   lift_calls (A := pile_Pile_Push_nil_an) (c := bodyOf Try.f8) (args := [.pointer none, l_1.val]) orc orc_wide Try.func8 (by kernel_rfl) (by kernel_rfl) (Eq.mp (by kernel_rfl : pile_Pile_Push_nil_sh l_1 w K = wpc orc Try.f8.ntmps pile_Pile_Push_nil_an (bodyOf Try.f8) (argl 0 [.pointer none, l_1.val]) w (retQ orc Try.f8.results.toList K)) h)

-- (*holloway/pile.Pile).Pop:nil
def pile_Pile_Pop_nil_sh (n_1 : Int) (w : World) (K : Value → World → Prop) : Prop :=
 K (.tuple #[.slice none 0 0, .bool false]) w
def pile_Pile_Pop_nil_an : An := ⟨[], [], []⟩
theorem pile_Pile_Pop_nil_lift {n_1 : Int} {w : World} {K : Value → World → Prop} (h : pile_Pile_Pop_nil_sh n_1 w K) : Calls Try.prog fn_pile_Pile_Pop #[.pointer none, .int .i64 n_1] w fun e w' => ∃ v, e = .returned v ∧ K v w' :=
   lift_calls (A := pile_Pile_Pop_nil_an) (c := bodyOf Try.f9) (args := [.pointer none, .int .i64 n_1]) orc orc_wide Try.func9 (by kernel_rfl) (by kernel_rfl) (Eq.mp (by kernel_rfl : pile_Pile_Pop_nil_sh n_1 w K = wpc orc Try.f9.ntmps pile_Pile_Pop_nil_an (bodyOf Try.f9) (argl 0 [.pointer none, .int .i64 n_1]) w (retQ orc Try.f9.results.toList K)) h)

-- (*holloway/pile.Pile).Peek:nil
def pile_Pile_Peek_nil_sh (k_1 : Int) (w : World) (K : Value → World → Prop) : Prop :=
 Calls Try.prog fn_pile_Pile_place #[.pointer none, .int .i64 k_1] w fun e2 w3 => ∃ n4 : Int, e2 = .returned (.int .i64 n4) ∧
 brB (decide (n4 < (0 : Int)))
 (K (.tuple #[.int .i64 (0 : Int), .bool false]) w3)
 (False)
def pile_Pile_Peek_nil_an : An := ⟨[], [], []⟩
theorem pile_Pile_Peek_nil_lift {k_1 : Int} {w : World} {K : Value → World → Prop} (h : pile_Pile_Peek_nil_sh k_1 w K) : Calls Try.prog fn_pile_Pile_Peek #[.pointer none, .int .i64 k_1] w fun e w' => ∃ v, e = .returned v ∧ K v w' :=
   lift_calls (A := pile_Pile_Peek_nil_an) (c := bodyOf Try.f16) (args := [.pointer none, .int .i64 k_1]) orc orc_wide Try.func16 (by kernel_rfl) (by kernel_rfl) (Eq.mp (by kernel_rfl : pile_Pile_Peek_nil_sh k_1 w K = wpc orc Try.f16.ntmps pile_Pile_Peek_nil_an (bodyOf Try.f16) (argl 0 [.pointer none, .int .i64 k_1]) w (retQ orc Try.f16.results.toList K)) h)

-- (*holloway/pile.Pile).place:nil
def pile_Pile_place_nil_sh (k_1 : Int) (w : World) (K : Value → World → Prop) : Prop :=
 K (.int .i64 (-1 : Int)) w
def pile_Pile_place_nil_an : An := ⟨[], [], []⟩
theorem pile_Pile_place_nil_lift {k_1 : Int} {w : World} {K : Value → World → Prop} (h : pile_Pile_place_nil_sh k_1 w K) : Calls Try.prog fn_pile_Pile_place #[.pointer none, .int .i64 k_1] w fun e w' => ∃ v, e = .returned v ∧ K v w' :=
   lift_calls (A := pile_Pile_place_nil_an) (c := bodyOf Try.f21) (args := [.pointer none, .int .i64 k_1]) orc orc_wide Try.func21 (by kernel_rfl) (by kernel_rfl) (Eq.mp (by kernel_rfl : pile_Pile_place_nil_sh k_1 w K = wpc orc Try.f21.ntmps pile_Pile_place_nil_an (bodyOf Try.f21) (argl 0 [.pointer none, .int .i64 k_1]) w (retQ orc Try.f21.results.toList K)) h)

-- (*holloway/pile.Pile).Set:nil
def pile_Pile_Set_nil_sh (k_1 : Int) (v_2 : Int) (w : World) (K : Value → World → Prop) : Prop :=
 Calls Try.prog fn_pile_Pile_place #[.pointer none, .int .i64 k_1] w fun e3 w4 => ∃ n5 : Int, e3 = .returned (.int .i64 n5) ∧
 brB (decide (n5 < (0 : Int)))
 (K (.bool false) w4)
 (False)
def pile_Pile_Set_nil_an : An := ⟨[], [], []⟩
theorem pile_Pile_Set_nil_lift {k_1 : Int} {v_2 : Int} {w : World} {K : Value → World → Prop} (h : pile_Pile_Set_nil_sh k_1 v_2 w K) : Calls Try.prog fn_pile_Pile_Set #[.pointer none, .int .i64 k_1, .int .i64 v_2] w fun e w' => ∃ v, e = .returned v ∧ K v w' :=
   lift_calls (A := pile_Pile_Set_nil_an) (c := bodyOf Try.f12) (args := [.pointer none, .int .i64 k_1, .int .i64 v_2]) orc orc_wide Try.func12 (by kernel_rfl) (by kernel_rfl) (Eq.mp (by kernel_rfl : pile_Pile_Set_nil_sh k_1 v_2 w K = wpc orc Try.f12.ntmps pile_Pile_Set_nil_an (bodyOf Try.f12) (argl 0 [.pointer none, .int .i64 k_1, .int .i64 v_2]) w (retQ orc Try.f12.results.toList K)) h)

-- (*holloway/pile.Pile).Cut:nil
def pile_Pile_Cut_nil_sh (n_1 : Int) (w : World) (K : Value → World → Prop) : Prop :=
 K (.bool false) w
def pile_Pile_Cut_nil_an : An := ⟨[], [], []⟩
theorem pile_Pile_Cut_nil_lift {n_1 : Int} {w : World} {K : Value → World → Prop} (h : pile_Pile_Cut_nil_sh n_1 w K) : Calls Try.prog fn_pile_Pile_Cut #[.pointer none, .int .i64 n_1] w fun e w' => ∃ v, e = .returned v ∧ K v w' :=
   lift_calls (A := pile_Pile_Cut_nil_an) (c := bodyOf Try.f13) (args := [.pointer none, .int .i64 n_1]) orc orc_wide Try.func13 (by kernel_rfl) (by kernel_rfl) (Eq.mp (by kernel_rfl : pile_Pile_Cut_nil_sh n_1 w K = wpc orc Try.f13.ntmps pile_Pile_Cut_nil_an (bodyOf Try.f13) (argl 0 [.pointer none, .int .i64 n_1]) w (retQ orc Try.f13.results.toList K)) h)

-- (*holloway/pile.Pile).Len:nil
def pile_Pile_Len_nil_sh  (w : World) (K : Value → World → Prop) : Prop :=
 K (.int .i64 (0 : Int)) w
def pile_Pile_Len_nil_an : An := ⟨[], [], []⟩
theorem pile_Pile_Len_nil_lift  {w : World} {K : Value → World → Prop} (h : pile_Pile_Len_nil_sh  w K) : Calls Try.prog fn_pile_Pile_Len #[.pointer none] w fun e w' => ∃ v, e = .returned v ∧ K v w' :=
   lift_calls (A := pile_Pile_Len_nil_an) (c := bodyOf Try.f17) (args := [.pointer none]) orc orc_wide Try.func17 (by kernel_rfl) (by kernel_rfl) (Eq.mp (by kernel_rfl : pile_Pile_Len_nil_sh  w K = wpc orc Try.f17.ntmps pile_Pile_Len_nil_an (bodyOf Try.f17) (argl 0 [.pointer none]) w (retQ orc Try.f17.results.toList K)) h)

-- (*holloway/pile.Pile).All:nil
def pile_Pile_All_nil_sh  (w : World) (K : Value → World → Prop) : Prop :=
 K (.slice none 0 0) w
def pile_Pile_All_nil_an : An := ⟨[], [], []⟩
theorem pile_Pile_All_nil_lift  {w : World} {K : Value → World → Prop} (h : pile_Pile_All_nil_sh  w K) : Calls Try.prog fn_pile_Pile_All #[.pointer none] w fun e w' => ∃ v, e = .returned v ∧ K v w' :=
   lift_calls (A := pile_Pile_All_nil_an) (c := bodyOf Try.f15) (args := [.pointer none]) orc orc_wide Try.func15 (by kernel_rfl) (by kernel_rfl) (Eq.mp (by kernel_rfl : pile_Pile_All_nil_sh  w K = wpc orc Try.f15.ntmps pile_Pile_All_nil_an (bodyOf Try.f15) (argl 0 [.pointer none]) w (retQ orc Try.f15.results.toList K)) h)

-- (*holloway/pile.Pile).Copy:nil
def pile_Pile_Copy_nil_sh  (w : World) (K : Value → World → Prop) : Prop :=
 K (.pointer none) w
def pile_Pile_Copy_nil_an : An := ⟨[], [], []⟩
theorem pile_Pile_Copy_nil_lift  {w : World} {K : Value → World → Prop} (h : pile_Pile_Copy_nil_sh  w K) : Calls Try.prog fn_pile_Pile_Copy #[.pointer none] w fun e w' => ∃ v, e = .returned v ∧ K v w' :=
   lift_calls (A := pile_Pile_Copy_nil_an) (c := bodyOf Try.f14) (args := [.pointer none]) orc orc_wide Try.func14 (by kernel_rfl) (by kernel_rfl) (Eq.mp (by kernel_rfl : pile_Pile_Copy_nil_sh  w K = wpc orc Try.f14.ntmps pile_Pile_Copy_nil_an (bodyOf Try.f14) (argl 0 [.pointer none]) w (retQ orc Try.f14.results.toList K)) h)

end Go.Proofs.Yticdjlkpkhahfaa
