/- The lifted texts of the package hollowaybook. -/
import Derived.Test.YtgffaimgnmfifaaJ4

/- Functions of Hollowaybook, read without their frames; that each is enough. Printed by a program of mine (wip/lift/gen.py). -/
set_option maxRecDepth 100000
namespace Go.Proofs.Ytgffaimgnmfifaa
open Go.RowKit

-- holloway/hollowaybook.LentInts
def hollowaybook_LentInts_sh (l_1 : Sl) (w : World) (K : Value → World → Prop) : Prop :=
 Calls Try.prog fn_hollowaybook_copyInts #[l_1.val] w fun e2 w3 => ∃ s4 : Sl, e2 = .returned (s4.val) ∧
 ∀ (b5 : Nat) (w6 : World), b5 = w3.heap.size → w6 = World.alloc w3 (.cells #[.int .i64 (-77 : Int)] T_int) →
 ∃ s7 : Sl, ∃ w8 : World, (Builtin.append_ #[T_sl_int, T_sl_int] T_sl_int #[s4.val, .slice (some ⟨b5, 0, none⟩) 1 1]).run Try.prog w6 = .ok (s7.val) w8 ∧
 0 ≤ (l_1.len : Int) ∧ (l_1.len : Int) ≤ (s7.cap : Int) ∧ ∀ s9 : Sl, s9 = Sl.sub s7.ptr s7.cap 0 (Int.toNat (l_1.len : Int)) 1 →
 K (s9.val) w8
def hollowaybook_LentInts_an : An := ⟨[], [], []⟩
theorem hollowaybook_LentInts_lift {l_1 : Sl} {w : World} {K : Value → World → Prop} (h : hollowaybook_LentInts_sh l_1 w K) : Calls Try.prog fn_hollowaybook_LentInts #[l_1.val] w fun e w' => ∃ v, e = .returned v ∧ K v w' :=
   lift_calls (A := hollowaybook_LentInts_an) (c := bodyOf Try.f11) (args := [l_1.val]) orc orc_wide Try.func11 (by kernel_rfl) (by kernel_rfl) (Eq.mp (by kernel_rfl : hollowaybook_LentInts_sh l_1 w K = wpc orc Try.f11.ntmps hollowaybook_LentInts_an (bodyOf Try.f11) (argl 0 [l_1.val]) w (retQ orc Try.f11.results.toList K)) h)

-- (*holloway/hollowaybook.Book).Ints
def hollowaybook_Book_Ints_sh (b_1 : Nat) (l_2 : Sl) (w : World) (K : Value → World → Prop) : Prop :=
 ∃ s3 : Sl, w.cell? ⟨b_1, 2, none⟩ = some (s3.val) ∧
 brB (decide ((s3.len : Int) < (250 : Int)))
 (∃ s4 : Sl, w.cell? ⟨b_1, 2, none⟩ = some (s4.val) ∧
 ∀ (b5 : Nat) (w6 : World), b5 = w.heap.size → w6 = World.alloc w (.cells #[l_2.val] T_sl_int) →
 ∃ s7 : Sl, ∃ w8 : World, (Builtin.append_ #[T_sl_sl_int, T_sl_sl_int] T_sl_sl_int #[s4.val, .slice (some ⟨b5, 0, none⟩) 1 1]).run Try.prog w6 = .ok (s7.val) w8 ∧
 wrOk w8 ⟨b_1, 2, none⟩ 1 ∧ ∀ w9 : World, w9 = stW w8 ⟨b_1, 2, none⟩ 0 [s7.val] →
 ∀ w10 : World, w10 = World.drew w9 →
 ∃ S11 : World → Prop, S11 w10 ∧
 ∃ s12 : Sl, held S11 ⟨b_1, 3, none⟩ (s12.val) ∧
 Calls Try.prog fn_hollowaybook_copyInts #[l_2.val] w10 fun e13 w14 => ∃ s15 : Sl, e13 = .returned (s15.val) ∧
 S11 w14 ∧
 ∀ (b16 : Nat) (w17 : World), b16 = w14.heap.size → w17 = World.alloc w14 (.cells #[s15.val] T_sl_int) →
 S11 w17 ∧
 ∃ s18 : Sl, ∃ w19 : World, (Builtin.append_ #[T_sl_sl_int, T_sl_sl_int] T_sl_sl_int #[s12.val, .slice (some ⟨b16, 0, none⟩) 1 1]).run Try.prog w17 = .ok (s18.val) w19 ∧
 S11 w19 ∧
 wrOk w19 ⟨b_1, 3, none⟩ 1 ∧ ∀ w20 : World, w20 = stW w19 ⟨b_1, 3, none⟩ 0 [s18.val] →
 K (.tuple #[]) w20)
 (K (.tuple #[]) w)
def hollowaybook_Book_Ints_an : An := ⟨[], [(2, (9, .st 0 (.st 1 (.st 2 (.st 3 (.st 4 (.st 5 (.ef 6 (.ef 7 (.ef 8 .done)))))))), 1))], []⟩
theorem hollowaybook_Book_Ints_lift {b_1 : Nat} {l_2 : Sl} {w : World} {K : Value → World → Prop} (h : hollowaybook_Book_Ints_sh b_1 l_2 w K) : Calls Try.prog fn_hollowaybook_Book_Ints #[.pointer (some ⟨b_1, 0, none⟩), l_2.val] w fun e w' => ∃ v, e = .returned v ∧ K v w' :=
   lift_calls (A := hollowaybook_Book_Ints_an) (c := bodyOf Try.f13) (args := [.pointer (some ⟨b_1, 0, none⟩), l_2.val]) orc orc_wide Try.func13 (by kernel_rfl) (by kernel_rfl) (Eq.mp (by kernel_rfl : hollowaybook_Book_Ints_sh b_1 l_2 w K = wpc orc Try.f13.ntmps hollowaybook_Book_Ints_an (bodyOf Try.f13) (argl 0 [.pointer (some ⟨b_1, 0, none⟩), l_2.val]) w (retQ orc Try.f13.results.toList K)) h)

-- holloway/hollowaybook.SameInts
def hollowaybook_SameInts_sh (a_1 : Sl) (b_2 : Sl) (w : World) (K : Value → World → Prop) : Prop :=
 brB ((a_1.len : Int) != (b_2.len : Int))
 (K (.bool false) w)
 (∃ (I1 : Int → World → Prop) (μ1 : Int → World → Nat), I1 (0 : Int) w ∧ ∀ (i4 : Int) (w3 : World), I1 i4 w3 →
 brB (decide (i4 < (a_1.len : Int)))
 (∀ w5 : World, w5 = World.drew w3 →
 ∃ a6 : Addr, a_1.ptr = some a6 ∧ 0 ≤ i4 ∧ i4 < (a_1.len : Int) ∧
 ∃ n7 : Int, held (Lw w5) (Addr.add a6 (Int.toNat i4 * 1)) (.int .i64 n7) ∧
 ∃ a8 : Addr, b_2.ptr = some a8 ∧ 0 ≤ i4 ∧ i4 < (b_2.len : Int) ∧
 ∃ n9 : Int, held (Lw w5) (Addr.add a8 (Int.toNat i4 * 1)) (.int .i64 n9) ∧
 brB (!(n7 == n9))
 (K (.bool false) w5)
 (I1 (wr (i4 + (1 : Int))) w5 ∧ μ1 (wr (i4 + (1 : Int))) w5 < μ1 i4 w3))
 (K (.bool true) w3))
def hollowaybook_SameInts_an : An := ⟨[(4, [(5, .int .i64)])], [(6, (10, .st 0 (.st 1 (.st 2 (.st 3 (.st 4 (.st 5 (.st 6 (.st 7 (.st 8 (.st 9 .done))))))))), 0))], []⟩
theorem hollowaybook_SameInts_lift {a_1 : Sl} {b_2 : Sl} {w : World} {K : Value → World → Prop} (h : hollowaybook_SameInts_sh a_1 b_2 w K) : Calls Try.prog fn_hollowaybook_SameInts #[a_1.val, b_2.val] w fun e w' => ∃ v, e = .returned v ∧ K v w' :=
   lift_calls (A := hollowaybook_SameInts_an) (c := bodyOf Try.f14) (args := [a_1.val, b_2.val]) orc orc_wide Try.func14 (by kernel_rfl) (by kernel_rfl) (Eq.mp (by kernel_rfl : hollowaybook_SameInts_sh a_1 b_2 w K = wpc orc Try.f14.ntmps hollowaybook_SameInts_an (bodyOf Try.f14) (argl 0 [a_1.val, b_2.val]) w (retQ orc Try.f14.results.toList K)) h)

-- holloway/hollowaybook.StaysInts
def hollowaybook_StaysInts_sh (m_1 : Sl) (was2 : Sl) (w : World) (K : Value → World → Prop) : Prop :=
 Calls Try.prog fn_hollowaybook_SameInts #[m_1.val, was2.val] w fun e3 w4 => ∃ b5 : Bool, e3 = .returned (.bool b5) ∧
 brB b5
 (0 ≤ (wr ((m_1.len : Int) + (1 : Int))) ∧ (wr ((m_1.len : Int) + (1 : Int))) ≤ (m_1.cap : Int) ∧ ∀ s6 : Sl, s6 = Sl.sub m_1.ptr m_1.cap 0 (Int.toNat (wr ((m_1.len : Int) + (1 : Int)))) 1 →
 ∃ a7 : Addr, s6.ptr = some a7 ∧ 0 ≤ (m_1.len : Int) ∧ (m_1.len : Int) < (s6.len : Int) ∧
 ∃ n8 : Int, w4.cell? (Addr.add a7 (Int.toNat (m_1.len : Int) * 1)) = some (.int .i64 n8) ∧
 K (.bool (n8 == (-77 : Int))) w4)
 (K (.bool false) w4)
def hollowaybook_StaysInts_an : An := ⟨[], [], []⟩
theorem hollowaybook_StaysInts_lift {m_1 : Sl} {was2 : Sl} {w : World} {K : Value → World → Prop} (h : hollowaybook_StaysInts_sh m_1 was2 w K) : Calls Try.prog fn_hollowaybook_StaysInts #[m_1.val, was2.val] w fun e w' => ∃ v, e = .returned v ∧ K v w' :=
   lift_calls (A := hollowaybook_StaysInts_an) (c := bodyOf Try.f15) (args := [m_1.val, was2.val]) orc orc_wide Try.func15 (by kernel_rfl) (by kernel_rfl) (Eq.mp (by kernel_rfl : hollowaybook_StaysInts_sh m_1 was2 w K = wpc orc Try.f15.ntmps hollowaybook_StaysInts_an (bodyOf Try.f15) (argl 0 [m_1.val, was2.val]) w (retQ orc Try.f15.results.toList K)) h)

-- (*holloway/hollowaybook.Book).Apart
def hollowaybook_Book_Apart_sh (b_1 : Nat) (w : World) (K : Value → World → Prop) : Prop :=
 Calls Try.prog fn_hollowaybook_Book_stillTexts #[.pointer (some ⟨b_1, 0, none⟩)] w fun e2 w3 => ∃ b4 : Bool, e2 = .returned (.bool b4) ∧
 brB (!b4)
 (K (.bool false) w3)
 (Calls Try.prog fn_hollowaybook_Book_stillInts #[.pointer (some ⟨b_1, 0, none⟩)] w3 fun e5 w6 => ∃ b7 : Bool, e5 = .returned (.bool b7) ∧
 brB (!b7)
 (K (.bool false) w6)
 (Calls Try.prog fn_hollowaybook_Book_stillWords #[.pointer (some ⟨b_1, 0, none⟩)] w6 fun e8 w9 => ∃ b10 : Bool, e8 = .returned (.bool b10) ∧
 brB (!b10)
 (K (.bool false) w9)
 (Calls Try.prog fn_hollowaybook_Book_stillSeens #[.pointer (some ⟨b_1, 0, none⟩)] w9 fun e11 w12 => ∃ b13 : Bool, e11 = .returned (.bool b13) ∧
 brB (!b13)
 (K (.bool false) w12)
 (Calls Try.prog fn_hollowaybook_Book_stillCodes #[.pointer (some ⟨b_1, 0, none⟩)] w12 fun e14 w15 => ∃ b16 : Bool, e14 = .returned (.bool b16) ∧
 brB (!b16)
 (K (.bool false) w15)
 (Calls Try.prog fn_hollowaybook_Book_stillExits #[.pointer (some ⟨b_1, 0, none⟩)] w15 fun e17 w18 => ∃ b19 : Bool, e17 = .returned (.bool b19) ∧
 brB (!b19)
 (K (.bool false) w18)
 (Calls Try.prog fn_hollowaybook_Book_putExits #[.pointer (some ⟨b_1, 0, none⟩)] w18 fun e20 w21 => e20 = .returned (.tuple #[]) ∧
 Calls Try.prog fn_hollowaybook_Book_putTexts #[.pointer (some ⟨b_1, 0, none⟩)] w21 fun e22 w23 => e22 = .returned (.tuple #[]) ∧
 Calls Try.prog fn_hollowaybook_Book_putInts #[.pointer (some ⟨b_1, 0, none⟩)] w23 fun e24 w25 => e24 = .returned (.tuple #[]) ∧
 Calls Try.prog fn_hollowaybook_Book_putWords #[.pointer (some ⟨b_1, 0, none⟩)] w25 fun e26 w27 => e26 = .returned (.tuple #[]) ∧
 Calls Try.prog fn_hollowaybook_Book_putSeens #[.pointer (some ⟨b_1, 0, none⟩)] w27 fun e28 w29 => e28 = .returned (.tuple #[]) ∧
 Calls Try.prog fn_hollowaybook_Book_putCodes #[.pointer (some ⟨b_1, 0, none⟩)] w29 fun e30 w31 => e30 = .returned (.tuple #[]) ∧
 Calls Try.prog fn_hollowaybook_Book_growTexts #[.pointer (some ⟨b_1, 0, none⟩)] w31 fun e32 w33 => ∃ s34 : Sl, e32 = .returned (s34.val) ∧
 Calls Try.prog fn_hollowaybook_Book_growInts #[.pointer (some ⟨b_1, 0, none⟩)] w33 fun e35 w36 => ∃ s37 : Sl, e35 = .returned (s37.val) ∧
 Calls Try.prog fn_hollowaybook_Book_growWords #[.pointer (some ⟨b_1, 0, none⟩)] w36 fun e38 w39 => ∃ s40 : Sl, e38 = .returned (s40.val) ∧
 Calls Try.prog fn_hollowaybook_Book_growSeens #[.pointer (some ⟨b_1, 0, none⟩)] w39 fun e41 w42 => ∃ s43 : Sl, e41 = .returned (s43.val) ∧
 Calls Try.prog fn_hollowaybook_Book_growCodes #[.pointer (some ⟨b_1, 0, none⟩)] w42 fun e44 w45 => ∃ s46 : Sl, e44 = .returned (s46.val) ∧
 Calls Try.prog fn_hollowaybook_Book_growExits #[.pointer (some ⟨b_1, 0, none⟩)] w45 fun e47 w48 => ∃ s49 : Sl, e47 = .returned (s49.val) ∧
 Calls Try.prog fn_hollowaybook_markedTexts #[s34.val] w48 fun e50 w51 => ∃ b52 : Bool, e50 = .returned (.bool b52) ∧
 brB b52
 (∃ s53 : Sl, w51.cell? ⟨b_1, 0, none⟩ = some (s53.val) ∧
 Calls Try.prog fn_hollowaybook_markedTexts #[s53.val] w51 fun e54 w55 => ∃ b56 : Bool, e54 = .returned (.bool b56) ∧
 brB b56
 (Calls Try.prog fn_hollowaybook_markedInts #[s37.val] w55 fun e57 w58 => ∃ b59 : Bool, e57 = .returned (.bool b59) ∧
 brB b59
 (∃ s60 : Sl, w58.cell? ⟨b_1, 2, none⟩ = some (s60.val) ∧
 Calls Try.prog fn_hollowaybook_markedInts #[s60.val] w58 fun e61 w62 => ∃ b63 : Bool, e61 = .returned (.bool b63) ∧
 brB b63
 (Calls Try.prog fn_hollowaybook_markedWords #[s40.val] w62 fun e64 w65 => ∃ b66 : Bool, e64 = .returned (.bool b66) ∧
 brB b66
 (∃ s67 : Sl, w65.cell? ⟨b_1, 4, none⟩ = some (s67.val) ∧
 Calls Try.prog fn_hollowaybook_markedWords #[s67.val] w65 fun e68 w69 => ∃ b70 : Bool, e68 = .returned (.bool b70) ∧
 brB b70
 (Calls Try.prog fn_hollowaybook_markedSeens #[s43.val] w69 fun e71 w72 => ∃ b73 : Bool, e71 = .returned (.bool b73) ∧
 brB b73
 (∃ s74 : Sl, w72.cell? ⟨b_1, 6, none⟩ = some (s74.val) ∧
 Calls Try.prog fn_hollowaybook_markedSeens #[s74.val] w72 fun e75 w76 => ∃ b77 : Bool, e75 = .returned (.bool b77) ∧
 brB b77
 (Calls Try.prog fn_hollowaybook_markedCodes #[s46.val] w76 fun e78 w79 => ∃ b80 : Bool, e78 = .returned (.bool b80) ∧
 brB b80
 (∃ s81 : Sl, w79.cell? ⟨b_1, 8, none⟩ = some (s81.val) ∧
 Calls Try.prog fn_hollowaybook_markedCodes #[s81.val] w79 fun e82 w83 => ∃ b84 : Bool, e82 = .returned (.bool b84) ∧
 brB b84
 (Calls Try.prog fn_hollowaybook_markedExits #[s49.val] w83 fun e85 w86 => ∃ b87 : Bool, e85 = .returned (.bool b87) ∧
 brB b87
 (∃ s88 : Sl, w86.cell? ⟨b_1, 10, none⟩ = some (s88.val) ∧
 Calls Try.prog fn_hollowaybook_markedExits #[s88.val] w86 fun e89 w90 => ∃ b91 : Bool, e89 = .returned (.bool b91) ∧
 K (.bool b91) w90)
 (K (.bool false) w86))
 (K (.bool false) w83))
 (K (.bool false) w79))
 (K (.bool false) w76))
 (K (.bool false) w72))
 (K (.bool false) w69))
 (K (.bool false) w65))
 (K (.bool false) w62))
 (K (.bool false) w58))
 (K (.bool false) w55))
 (K (.bool false) w51)))))))
def hollowaybook_Book_Apart_an : An := ⟨[], [], []⟩
theorem hollowaybook_Book_Apart_lift {b_1 : Nat} {w : World} {K : Value → World → Prop} (h : hollowaybook_Book_Apart_sh b_1 w K) : Calls Try.prog fn_hollowaybook_Book_Apart #[.pointer (some ⟨b_1, 0, none⟩)] w fun e w' => ∃ v, e = .returned v ∧ K v w' :=
   lift_calls (A := hollowaybook_Book_Apart_an) (c := bodyOf Try.f17) (args := [.pointer (some ⟨b_1, 0, none⟩)]) orc orc_wide Try.func17 (by kernel_rfl) (by kernel_rfl) (Eq.mp (by kernel_rfl : hollowaybook_Book_Apart_sh b_1 w K = wpc orc Try.f17.ntmps hollowaybook_Book_Apart_an (bodyOf Try.f17) (argl 0 [.pointer (some ⟨b_1, 0, none⟩)]) w (retQ orc Try.f17.results.toList K)) h)

-- holloway/hollowaybook.copyInts
def hollowaybook_copyInts_sh (l_1 : Sl) (w : World) (K : Value → World → Prop) : Prop :=
 ∃ s2 : Sl, ∃ w3 : World, (Builtin.append_ #[T_sl_int, T_sl_int] T_sl_int #[.slice none 0 0, l_1.val]).run Try.prog w = .ok (s2.val) w3 ∧
 K (s2.val) w3
def hollowaybook_copyInts_an : An := ⟨[], [], []⟩
theorem hollowaybook_copyInts_lift {l_1 : Sl} {w : World} {K : Value → World → Prop} (h : hollowaybook_copyInts_sh l_1 w K) : Calls Try.prog fn_hollowaybook_copyInts #[l_1.val] w fun e w' => ∃ v, e = .returned v ∧ K v w' :=
   lift_calls (A := hollowaybook_copyInts_an) (c := bodyOf Try.f24) (args := [l_1.val]) orc orc_wide Try.func24 (by kernel_rfl) (by kernel_rfl) (Eq.mp (by kernel_rfl : hollowaybook_copyInts_sh l_1 w K = wpc orc Try.f24.ntmps hollowaybook_copyInts_an (bodyOf Try.f24) (argl 0 [l_1.val]) w (retQ orc Try.f24.results.toList K)) h)

-- (*holloway/hollowaybook.Book).stillTexts
def hollowaybook_Book_stillTexts_sh (b_1 : Nat) (w : World) (K : Value → World → Prop) : Prop :=
 ∃ (I1 : Int → World → Prop) (μ1 : Int → World → Nat), I1 (0 : Int) w ∧ ∀ (i3 : Int) (w2 : World), I1 i3 w2 →
 ∃ s4 : Sl, w2.cell? ⟨b_1, 0, none⟩ = some (s4.val) ∧
 brB (decide (i3 < (s4.len : Int)))
 (∀ w5 : World, w5 = World.drew w2 →
 ∃ s6 : Sl, held (Lw w5) ⟨b_1, 0, none⟩ (s6.val) ∧
 ∃ a7 : Addr, s6.ptr = some a7 ∧ 0 ≤ i3 ∧ i3 < (s6.len : Int) ∧
 ∃ s8 : Sl, held (Lw w5) (Addr.add a7 (Int.toNat i3 * 1)) (s8.val) ∧
 ∃ s9 : Sl, held (Lw w5) ⟨b_1, 1, none⟩ (s9.val) ∧
 ∃ a10 : Addr, s9.ptr = some a10 ∧ 0 ≤ i3 ∧ i3 < (s9.len : Int) ∧
 ∃ s11 : Sl, held (Lw w5) (Addr.add a10 (Int.toNat i3 * 1)) (s11.val) ∧
 Calls Try.prog fn_hollowaybook_SameTexts #[s8.val, s11.val] w5 fun e12 w13 => ∃ b14 : Bool, e12 = .returned (.bool b14) ∧
 brB (!b14)
 (K (.bool false) w13)
 (I1 (wr (i3 + (1 : Int))) w13 ∧ μ1 (wr (i3 + (1 : Int))) w13 < μ1 i3 w2))
 (K (.bool true) w2)
def hollowaybook_Book_stillTexts_an : An := ⟨[(2, [(3, .int .i64)])], [(4, (14, .st 0 (.st 1 (.st 2 (.st 3 (.st 4 (.st 5 (.st 6 (.st 7 (.st 8 (.st 9 (.st 10 (.st 11 (.st 12 (.st 13 .done))))))))))))), 0))], []⟩
theorem hollowaybook_Book_stillTexts_lift {b_1 : Nat} {w : World} {K : Value → World → Prop} (h : hollowaybook_Book_stillTexts_sh b_1 w K) : Calls Try.prog fn_hollowaybook_Book_stillTexts #[.pointer (some ⟨b_1, 0, none⟩)] w fun e w' => ∃ v, e = .returned v ∧ K v w' :=
   lift_calls (A := hollowaybook_Book_stillTexts_an) (c := bodyOf Try.f26) (args := [.pointer (some ⟨b_1, 0, none⟩)]) orc orc_wide Try.func26 (by kernel_rfl) (by kernel_rfl) (Eq.mp (by kernel_rfl : hollowaybook_Book_stillTexts_sh b_1 w K = wpc orc Try.f26.ntmps hollowaybook_Book_stillTexts_an (bodyOf Try.f26) (argl 0 [.pointer (some ⟨b_1, 0, none⟩)]) w (retQ orc Try.f26.results.toList K)) h)

-- (*holloway/hollowaybook.Book).stillInts
def hollowaybook_Book_stillInts_sh (b_1 : Nat) (w : World) (K : Value → World → Prop) : Prop :=
 ∃ (I1 : Int → World → Prop) (μ1 : Int → World → Nat), I1 (0 : Int) w ∧ ∀ (i3 : Int) (w2 : World), I1 i3 w2 →
 ∃ s4 : Sl, w2.cell? ⟨b_1, 2, none⟩ = some (s4.val) ∧
 brB (decide (i3 < (s4.len : Int)))
 (∀ w5 : World, w5 = World.drew w2 →
 ∃ s6 : Sl, held (Lw w5) ⟨b_1, 2, none⟩ (s6.val) ∧
 ∃ a7 : Addr, s6.ptr = some a7 ∧ 0 ≤ i3 ∧ i3 < (s6.len : Int) ∧
 ∃ s8 : Sl, held (Lw w5) (Addr.add a7 (Int.toNat i3 * 1)) (s8.val) ∧
 ∃ s9 : Sl, held (Lw w5) ⟨b_1, 3, none⟩ (s9.val) ∧
 ∃ a10 : Addr, s9.ptr = some a10 ∧ 0 ≤ i3 ∧ i3 < (s9.len : Int) ∧
 ∃ s11 : Sl, held (Lw w5) (Addr.add a10 (Int.toNat i3 * 1)) (s11.val) ∧
 Calls Try.prog fn_hollowaybook_SameInts #[s8.val, s11.val] w5 fun e12 w13 => ∃ b14 : Bool, e12 = .returned (.bool b14) ∧
 brB (!b14)
 (K (.bool false) w13)
 (I1 (wr (i3 + (1 : Int))) w13 ∧ μ1 (wr (i3 + (1 : Int))) w13 < μ1 i3 w2))
 (K (.bool true) w2)
def hollowaybook_Book_stillInts_an : An := ⟨[(2, [(3, .int .i64)])], [(4, (14, .st 0 (.st 1 (.st 2 (.st 3 (.st 4 (.st 5 (.st 6 (.st 7 (.st 8 (.st 9 (.st 10 (.st 11 (.st 12 (.st 13 .done))))))))))))), 0))], []⟩
theorem hollowaybook_Book_stillInts_lift {b_1 : Nat} {w : World} {K : Value → World → Prop} (h : hollowaybook_Book_stillInts_sh b_1 w K) : Calls Try.prog fn_hollowaybook_Book_stillInts #[.pointer (some ⟨b_1, 0, none⟩)] w fun e w' => ∃ v, e = .returned v ∧ K v w' :=
   lift_calls (A := hollowaybook_Book_stillInts_an) (c := bodyOf Try.f27) (args := [.pointer (some ⟨b_1, 0, none⟩)]) orc orc_wide Try.func27 (by kernel_rfl) (by kernel_rfl) (Eq.mp (by kernel_rfl : hollowaybook_Book_stillInts_sh b_1 w K = wpc orc Try.f27.ntmps hollowaybook_Book_stillInts_an (bodyOf Try.f27) (argl 0 [.pointer (some ⟨b_1, 0, none⟩)]) w (retQ orc Try.f27.results.toList K)) h)

-- (*holloway/hollowaybook.Book).stillWords
def hollowaybook_Book_stillWords_sh (b_1 : Nat) (w : World) (K : Value → World → Prop) : Prop :=
 ∃ (I1 : Int → World → Prop) (μ1 : Int → World → Nat), I1 (0 : Int) w ∧ ∀ (i3 : Int) (w2 : World), I1 i3 w2 →
 ∃ s4 : Sl, w2.cell? ⟨b_1, 4, none⟩ = some (s4.val) ∧
 brB (decide (i3 < (s4.len : Int)))
 (∀ w5 : World, w5 = World.drew w2 →
 ∃ s6 : Sl, held (Lw w5) ⟨b_1, 4, none⟩ (s6.val) ∧
 ∃ a7 : Addr, s6.ptr = some a7 ∧ 0 ≤ i3 ∧ i3 < (s6.len : Int) ∧
 ∃ s8 : Sl, held (Lw w5) (Addr.add a7 (Int.toNat i3 * 1)) (s8.val) ∧
 ∃ s9 : Sl, held (Lw w5) ⟨b_1, 5, none⟩ (s9.val) ∧
 ∃ a10 : Addr, s9.ptr = some a10 ∧ 0 ≤ i3 ∧ i3 < (s9.len : Int) ∧
 ∃ s11 : Sl, held (Lw w5) (Addr.add a10 (Int.toNat i3 * 1)) (s11.val) ∧
 Calls Try.prog fn_hollowaybook_SameWords #[s8.val, s11.val] w5 fun e12 w13 => ∃ b14 : Bool, e12 = .returned (.bool b14) ∧
 brB (!b14)
 (K (.bool false) w13)
 (I1 (wr (i3 + (1 : Int))) w13 ∧ μ1 (wr (i3 + (1 : Int))) w13 < μ1 i3 w2))
 (K (.bool true) w2)
def hollowaybook_Book_stillWords_an : An := ⟨[(2, [(3, .int .i64)])], [(4, (14, .st 0 (.st 1 (.st 2 (.st 3 (.st 4 (.st 5 (.st 6 (.st 7 (.st 8 (.st 9 (.st 10 (.st 11 (.st 12 (.st 13 .done))))))))))))), 0))], []⟩
theorem hollowaybook_Book_stillWords_lift {b_1 : Nat} {w : World} {K : Value → World → Prop} (h : hollowaybook_Book_stillWords_sh b_1 w K) : Calls Try.prog fn_hollowaybook_Book_stillWords #[.pointer (some ⟨b_1, 0, none⟩)] w fun e w' => ∃ v, e = .returned v ∧ K v w' :=
   lift_calls (A := hollowaybook_Book_stillWords_an) (c := bodyOf Try.f28) (args := [.pointer (some ⟨b_1, 0, none⟩)]) orc orc_wide Try.func28 (by kernel_rfl) (by kernel_rfl) (Eq.mp (by kernel_rfl : hollowaybook_Book_stillWords_sh b_1 w K = wpc orc Try.f28.ntmps hollowaybook_Book_stillWords_an (bodyOf Try.f28) (argl 0 [.pointer (some ⟨b_1, 0, none⟩)]) w (retQ orc Try.f28.results.toList K)) h)

-- (*holloway/hollowaybook.Book).stillSeens
def hollowaybook_Book_stillSeens_sh (b_1 : Nat) (w : World) (K : Value → World → Prop) : Prop :=
 ∃ (I1 : Int → World → Prop) (μ1 : Int → World → Nat), I1 (0 : Int) w ∧ ∀ (i3 : Int) (w2 : World), I1 i3 w2 →
 ∃ s4 : Sl, w2.cell? ⟨b_1, 6, none⟩ = some (s4.val) ∧
 brB (decide (i3 < (s4.len : Int)))
 (∀ w5 : World, w5 = World.drew w2 →
 ∃ s6 : Sl, held (Lw w5) ⟨b_1, 6, none⟩ (s6.val) ∧
 ∃ a7 : Addr, s6.ptr = some a7 ∧ 0 ≤ i3 ∧ i3 < (s6.len : Int) ∧
 ∃ s8 : Sl, held (Lw w5) (Addr.add a7 (Int.toNat i3 * 1)) (s8.val) ∧
 ∃ s9 : Sl, held (Lw w5) ⟨b_1, 7, none⟩ (s9.val) ∧
 ∃ a10 : Addr, s9.ptr = some a10 ∧ 0 ≤ i3 ∧ i3 < (s9.len : Int) ∧
 ∃ s11 : Sl, held (Lw w5) (Addr.add a10 (Int.toNat i3 * 1)) (s11.val) ∧
 Calls Try.prog fn_hollowaybook_SameSeens #[s8.val, s11.val] w5 fun e12 w13 => ∃ b14 : Bool, e12 = .returned (.bool b14) ∧
 brB (!b14)
 (K (.bool false) w13)
 (I1 (wr (i3 + (1 : Int))) w13 ∧ μ1 (wr (i3 + (1 : Int))) w13 < μ1 i3 w2))
 (K (.bool true) w2)
def hollowaybook_Book_stillSeens_an : An := ⟨[(2, [(3, .int .i64)])], [(4, (14, .st 0 (.st 1 (.st 2 (.st 3 (.st 4 (.st 5 (.st 6 (.st 7 (.st 8 (.st 9 (.st 10 (.st 11 (.st 12 (.st 13 .done))))))))))))), 0))], []⟩
theorem hollowaybook_Book_stillSeens_lift {b_1 : Nat} {w : World} {K : Value → World → Prop} (h : hollowaybook_Book_stillSeens_sh b_1 w K) : Calls Try.prog fn_hollowaybook_Book_stillSeens #[.pointer (some ⟨b_1, 0, none⟩)] w fun e w' => ∃ v, e = .returned v ∧ K v w' :=
   lift_calls (A := hollowaybook_Book_stillSeens_an) (c := bodyOf Try.f29) (args := [.pointer (some ⟨b_1, 0, none⟩)]) orc orc_wide Try.func29 (by kernel_rfl) (by kernel_rfl) (Eq.mp (by kernel_rfl : hollowaybook_Book_stillSeens_sh b_1 w K = wpc orc Try.f29.ntmps hollowaybook_Book_stillSeens_an (bodyOf Try.f29) (argl 0 [.pointer (some ⟨b_1, 0, none⟩)]) w (retQ orc Try.f29.results.toList K)) h)

-- (*holloway/hollowaybook.Book).stillCodes
def hollowaybook_Book_stillCodes_sh (b_1 : Nat) (w : World) (K : Value → World → Prop) : Prop :=
 ∃ (I1 : Int → World → Prop) (μ1 : Int → World → Nat), I1 (0 : Int) w ∧ ∀ (i3 : Int) (w2 : World), I1 i3 w2 →
 ∃ s4 : Sl, w2.cell? ⟨b_1, 8, none⟩ = some (s4.val) ∧
 brB (decide (i3 < (s4.len : Int)))
 (∀ w5 : World, w5 = World.drew w2 →
 ∃ s6 : Sl, held (Lw w5) ⟨b_1, 8, none⟩ (s6.val) ∧
 ∃ a7 : Addr, s6.ptr = some a7 ∧ 0 ≤ i3 ∧ i3 < (s6.len : Int) ∧
 ∃ s8 : Sl, held (Lw w5) (Addr.add a7 (Int.toNat i3 * 1)) (s8.val) ∧
 ∃ s9 : Sl, held (Lw w5) ⟨b_1, 9, none⟩ (s9.val) ∧
 ∃ a10 : Addr, s9.ptr = some a10 ∧ 0 ≤ i3 ∧ i3 < (s9.len : Int) ∧
 ∃ s11 : Sl, held (Lw w5) (Addr.add a10 (Int.toNat i3 * 1)) (s11.val) ∧
 Calls Try.prog fn_hollowaybook_SameCodes #[s8.val, s11.val] w5 fun e12 w13 => ∃ b14 : Bool, e12 = .returned (.bool b14) ∧
 brB (!b14)
 (K (.bool false) w13)
 (I1 (wr (i3 + (1 : Int))) w13 ∧ μ1 (wr (i3 + (1 : Int))) w13 < μ1 i3 w2))
 (K (.bool true) w2)
def hollowaybook_Book_stillCodes_an : An := ⟨[(2, [(3, .int .i64)])], [(4, (14, .st 0 (.st 1 (.st 2 (.st 3 (.st 4 (.st 5 (.st 6 (.st 7 (.st 8 (.st 9 (.st 10 (.st 11 (.st 12 (.st 13 .done))))))))))))), 0))], []⟩
theorem hollowaybook_Book_stillCodes_lift {b_1 : Nat} {w : World} {K : Value → World → Prop} (h : hollowaybook_Book_stillCodes_sh b_1 w K) : Calls Try.prog fn_hollowaybook_Book_stillCodes #[.pointer (some ⟨b_1, 0, none⟩)] w fun e w' => ∃ v, e = .returned v ∧ K v w' :=
   lift_calls (A := hollowaybook_Book_stillCodes_an) (c := bodyOf Try.f30) (args := [.pointer (some ⟨b_1, 0, none⟩)]) orc orc_wide Try.func30 (by kernel_rfl) (by kernel_rfl) (Eq.mp (by kernel_rfl : hollowaybook_Book_stillCodes_sh b_1 w K = wpc orc Try.f30.ntmps hollowaybook_Book_stillCodes_an (bodyOf Try.f30) (argl 0 [.pointer (some ⟨b_1, 0, none⟩)]) w (retQ orc Try.f30.results.toList K)) h)

-- (*holloway/hollowaybook.Book).stillExits
def hollowaybook_Book_stillExits_sh (b_1 : Nat) (w : World) (K : Value → World → Prop) : Prop :=
 ∃ (I1 : Int → World → Prop) (μ1 : Int → World → Nat), I1 (0 : Int) w ∧ ∀ (i3 : Int) (w2 : World), I1 i3 w2 →
 ∃ s4 : Sl, w2.cell? ⟨b_1, 10, none⟩ = some (s4.val) ∧
 brB (decide (i3 < (s4.len : Int)))
 (∀ w5 : World, w5 = World.drew w2 →
 ∃ s6 : Sl, held (Lw w5) ⟨b_1, 10, none⟩ (s6.val) ∧
 ∃ a7 : Addr, s6.ptr = some a7 ∧ 0 ≤ i3 ∧ i3 < (s6.len : Int) ∧
 ∃ s8 : Sl, held (Lw w5) (Addr.add a7 (Int.toNat i3 * 1)) (s8.val) ∧
 ∃ s9 : Sl, held (Lw w5) ⟨b_1, 11, none⟩ (s9.val) ∧
 ∃ a10 : Addr, s9.ptr = some a10 ∧ 0 ≤ i3 ∧ i3 < (s9.len : Int) ∧
 ∃ s11 : Sl, held (Lw w5) (Addr.add a10 (Int.toNat i3 * 1)) (s11.val) ∧
 Calls Try.prog fn_hollowaybook_SameExits #[s8.val, s11.val] w5 fun e12 w13 => ∃ b14 : Bool, e12 = .returned (.bool b14) ∧
 brB (!b14)
 (K (.bool false) w13)
 (I1 (wr (i3 + (1 : Int))) w13 ∧ μ1 (wr (i3 + (1 : Int))) w13 < μ1 i3 w2))
 (K (.bool true) w2)
def hollowaybook_Book_stillExits_an : An := ⟨[(2, [(3, .int .i64)])], [(4, (14, .st 0 (.st 1 (.st 2 (.st 3 (.st 4 (.st 5 (.st 6 (.st 7 (.st 8 (.st 9 (.st 10 (.st 11 (.st 12 (.st 13 .done))))))))))))), 0))], []⟩
theorem hollowaybook_Book_stillExits_lift {b_1 : Nat} {w : World} {K : Value → World → Prop} (h : hollowaybook_Book_stillExits_sh b_1 w K) : Calls Try.prog fn_hollowaybook_Book_stillExits #[.pointer (some ⟨b_1, 0, none⟩)] w fun e w' => ∃ v, e = .returned v ∧ K v w' :=
   lift_calls (A := hollowaybook_Book_stillExits_an) (c := bodyOf Try.f31) (args := [.pointer (some ⟨b_1, 0, none⟩)]) orc orc_wide Try.func31 (by kernel_rfl) (by kernel_rfl) (Eq.mp (by kernel_rfl : hollowaybook_Book_stillExits_sh b_1 w K = wpc orc Try.f31.ntmps hollowaybook_Book_stillExits_an (bodyOf Try.f31) (argl 0 [.pointer (some ⟨b_1, 0, none⟩)]) w (retQ orc Try.f31.results.toList K)) h)

-- (*holloway/hollowaybook.Book).putExits
def hollowaybook_Book_putExits_sh (b_1 : Nat) (w : World) (K : Value → World → Prop) : Prop :=
 ∃ (I1 : Int → World → Prop) (μ1 : Int → World → Nat), I1 (0 : Int) w ∧ ∀ (i3 : Int) (w2 : World), I1 i3 w2 →
 ∃ s4 : Sl, w2.cell? ⟨b_1, 10, none⟩ = some (s4.val) ∧
 brB (decide (i3 < (s4.len : Int)))
 (∃ s5 : Sl, w2.cell? ⟨b_1, 10, none⟩ = some (s5.val) ∧
 ∃ a6 : Addr, s5.ptr = some a6 ∧ 0 ≤ i3 ∧ i3 < (s5.len : Int) ∧
 ∃ s7 : Sl, w2.cell? (Addr.add a6 (Int.toNat i3 * 1)) = some (s7.val) ∧
 Calls Try.prog fn_hollowaybook_markExits #[.int .i64 i3, .int .i64 (0 : Int), .int .i64 (s7.len : Int)] w2 fun e8 w9 => ∃ s10 : Sl, e8 = .returned (s10.val) ∧
 ∃ (I2 : Int → World → Prop) (μ2 : Int → World → Nat), I2 (0 : Int) w9 ∧ ∀ (k12 : Int) (w11 : World), I2 k12 w11 →
 brB (decide (k12 < (s10.len : Int)))
 (∀ w13 : World, w13 = World.drew w11 →
 ∃ s14 : Sl, held (Lw w13) ⟨b_1, 10, none⟩ (s14.val) ∧
 ∃ a15 : Addr, s14.ptr = some a15 ∧ 0 ≤ i3 ∧ i3 < (s14.len : Int) ∧
 ∃ s16 : Sl, held (Lw w13) (Addr.add a15 (Int.toNat i3 * 1)) (s16.val) ∧
 ∃ a17 : Addr, s10.ptr = some a17 ∧ 0 ≤ k12 ∧ k12 < (s10.len : Int) ∧
 ∃ n_Ip18 : Int, ∃ n_Steps19 : Int, ∃ s_Stack20 : Sl, ∃ s_Back21 : Sl, held (Lw w13) (Addr.add a17 (Int.toNat k12 * 4)) (.int .i64 n_Ip18) ∧ held (Lw w13) (Addr.add (Addr.add a17 (Int.toNat k12 * 4)) 1) (.int .i64 n_Steps19) ∧ held (Lw w13) (Addr.add (Addr.add a17 (Int.toNat k12 * 4)) 2) (s_Stack20.val) ∧ held (Lw w13) (Addr.add (Addr.add a17 (Int.toNat k12 * 4)) 3) (s_Back21.val) ∧
 ∃ a22 : Addr, s16.ptr = some a22 ∧ 0 ≤ k12 ∧ k12 < (s16.len : Int) ∧
 wrOk w13 (Addr.add a22 (Int.toNat k12 * 4)) 4 ∧ ∀ w23 : World, w23 = stW w13 (Addr.add a22 (Int.toNat k12 * 4)) 0 [.int .i64 n_Ip18, .int .i64 n_Steps19, s_Stack20.val, s_Back21.val] →
 I2 (wr (k12 + (1 : Int))) w23 ∧ μ2 (wr (k12 + (1 : Int))) w23 < μ2 k12 w11)
 (I1 (wr (i3 + (1 : Int))) w11 ∧ μ1 (wr (i3 + (1 : Int))) w11 < μ1 i3 w2))
 (K (.tuple #[]) w2)
def hollowaybook_Book_putExits_an : An := ⟨[(1, [(2, .int .i64)]), (5, [(4, .int .i64)])], [(7, (13, .st 0 (.st 1 (.st 2 (.st 3 (.st 4 (.st 5 (.st 6 (.st 7 (.st 8 (.st 9 (.st 10 (.st 11 (.st 12 .done)))))))))))), 0))], []⟩
theorem hollowaybook_Book_putExits_lift {b_1 : Nat} {w : World} {K : Value → World → Prop} (h : hollowaybook_Book_putExits_sh b_1 w K) : Calls Try.prog fn_hollowaybook_Book_putExits #[.pointer (some ⟨b_1, 0, none⟩)] w fun e w' => ∃ v, e = .returned v ∧ K v w' :=
   lift_calls (A := hollowaybook_Book_putExits_an) (c := bodyOf Try.f32) (args := [.pointer (some ⟨b_1, 0, none⟩)]) orc orc_wide Try.func32 (by kernel_rfl) (by kernel_rfl) (Eq.mp (by kernel_rfl : hollowaybook_Book_putExits_sh b_1 w K = wpc orc Try.f32.ntmps hollowaybook_Book_putExits_an (bodyOf Try.f32) (argl 0 [.pointer (some ⟨b_1, 0, none⟩)]) w (retQ orc Try.f32.results.toList K)) h)

-- (*holloway/hollowaybook.Book).putTexts
def hollowaybook_Book_putTexts_sh (b_1 : Nat) (w : World) (K : Value → World → Prop) : Prop :=
 ∃ (I1 : Int → World → Prop) (μ1 : Int → World → Nat), I1 (0 : Int) w ∧ ∀ (i3 : Int) (w2 : World), I1 i3 w2 →
 ∃ s4 : Sl, w2.cell? ⟨b_1, 0, none⟩ = some (s4.val) ∧
 brB (decide (i3 < (s4.len : Int)))
 (∃ s5 : Sl, w2.cell? ⟨b_1, 0, none⟩ = some (s5.val) ∧
 ∃ a6 : Addr, s5.ptr = some a6 ∧ 0 ≤ i3 ∧ i3 < (s5.len : Int) ∧
 ∃ s7 : Sl, w2.cell? (Addr.add a6 (Int.toNat i3 * 1)) = some (s7.val) ∧
 Calls Try.prog fn_hollowaybook_markTexts #[.int .i64 i3, .int .i64 (0 : Int), .int .i64 (s7.len : Int)] w2 fun e8 w9 => ∃ s10 : Sl, e8 = .returned (s10.val) ∧
 ∃ (I2 : Int → World → Prop) (μ2 : Int → World → Nat), I2 (0 : Int) w9 ∧ ∀ (k12 : Int) (w11 : World), I2 k12 w11 →
 brB (decide (k12 < (s10.len : Int)))
 (∀ w13 : World, w13 = World.drew w11 →
 ∃ s14 : Sl, held (Lw w13) ⟨b_1, 0, none⟩ (s14.val) ∧
 ∃ a15 : Addr, s14.ptr = some a15 ∧ 0 ≤ i3 ∧ i3 < (s14.len : Int) ∧
 ∃ s16 : Sl, held (Lw w13) (Addr.add a15 (Int.toNat i3 * 1)) (s16.val) ∧
 ∃ a17 : Addr, s10.ptr = some a17 ∧ 0 ≤ k12 ∧ k12 < (s10.len : Int) ∧
 ∃ t18 : ByteArray, held (Lw w13) (Addr.add a17 (Int.toNat k12 * 1)) (.string t18) ∧
 ∃ a19 : Addr, s16.ptr = some a19 ∧ 0 ≤ k12 ∧ k12 < (s16.len : Int) ∧
 wrOk w13 (Addr.add a19 (Int.toNat k12 * 1)) 1 ∧ ∀ w20 : World, w20 = stW w13 (Addr.add a19 (Int.toNat k12 * 1)) 0 [.string t18] →
 I2 (wr (k12 + (1 : Int))) w20 ∧ μ2 (wr (k12 + (1 : Int))) w20 < μ2 k12 w11)
 (I1 (wr (i3 + (1 : Int))) w11 ∧ μ1 (wr (i3 + (1 : Int))) w11 < μ1 i3 w2))
 (K (.tuple #[]) w2)
def hollowaybook_Book_putTexts_an : An := ⟨[(1, [(2, .int .i64)]), (5, [(4, .int .i64)])], [(7, (13, .st 0 (.st 1 (.st 2 (.st 3 (.st 4 (.st 5 (.st 6 (.st 7 (.st 8 (.st 9 (.st 10 (.st 11 (.st 12 .done)))))))))))), 0))], []⟩
theorem hollowaybook_Book_putTexts_lift {b_1 : Nat} {w : World} {K : Value → World → Prop} (h : hollowaybook_Book_putTexts_sh b_1 w K) : Calls Try.prog fn_hollowaybook_Book_putTexts #[.pointer (some ⟨b_1, 0, none⟩)] w fun e w' => ∃ v, e = .returned v ∧ K v w' :=
   lift_calls (A := hollowaybook_Book_putTexts_an) (c := bodyOf Try.f33) (args := [.pointer (some ⟨b_1, 0, none⟩)]) orc orc_wide Try.func33 (by kernel_rfl) (by kernel_rfl) (Eq.mp (by kernel_rfl : hollowaybook_Book_putTexts_sh b_1 w K = wpc orc Try.f33.ntmps hollowaybook_Book_putTexts_an (bodyOf Try.f33) (argl 0 [.pointer (some ⟨b_1, 0, none⟩)]) w (retQ orc Try.f33.results.toList K)) h)

-- (*holloway/hollowaybook.Book).putInts
def hollowaybook_Book_putInts_sh (b_1 : Nat) (w : World) (K : Value → World → Prop) : Prop :=
 ∃ (I1 : Int → World → Prop) (μ1 : Int → World → Nat), I1 (0 : Int) w ∧ ∀ (i3 : Int) (w2 : World), I1 i3 w2 →
 ∃ s4 : Sl, w2.cell? ⟨b_1, 2, none⟩ = some (s4.val) ∧
 brB (decide (i3 < (s4.len : Int)))
 (∃ s5 : Sl, w2.cell? ⟨b_1, 2, none⟩ = some (s5.val) ∧
 ∃ a6 : Addr, s5.ptr = some a6 ∧ 0 ≤ i3 ∧ i3 < (s5.len : Int) ∧
 ∃ s7 : Sl, w2.cell? (Addr.add a6 (Int.toNat i3 * 1)) = some (s7.val) ∧
 Calls Try.prog fn_hollowaybook_markInts #[.int .i64 i3, .int .i64 (0 : Int), .int .i64 (s7.len : Int)] w2 fun e8 w9 => ∃ s10 : Sl, e8 = .returned (s10.val) ∧
 ∃ (I2 : Int → World → Prop) (μ2 : Int → World → Nat), I2 (0 : Int) w9 ∧ ∀ (k12 : Int) (w11 : World), I2 k12 w11 →
 brB (decide (k12 < (s10.len : Int)))
 (∀ w13 : World, w13 = World.drew w11 →
 ∃ s14 : Sl, held (Lw w13) ⟨b_1, 2, none⟩ (s14.val) ∧
 ∃ a15 : Addr, s14.ptr = some a15 ∧ 0 ≤ i3 ∧ i3 < (s14.len : Int) ∧
 ∃ s16 : Sl, held (Lw w13) (Addr.add a15 (Int.toNat i3 * 1)) (s16.val) ∧
 ∃ a17 : Addr, s10.ptr = some a17 ∧ 0 ≤ k12 ∧ k12 < (s10.len : Int) ∧
 ∃ n18 : Int, held (Lw w13) (Addr.add a17 (Int.toNat k12 * 1)) (.int .i64 n18) ∧
 ∃ a19 : Addr, s16.ptr = some a19 ∧ 0 ≤ k12 ∧ k12 < (s16.len : Int) ∧
 wrOk w13 (Addr.add a19 (Int.toNat k12 * 1)) 1 ∧ ∀ w20 : World, w20 = stW w13 (Addr.add a19 (Int.toNat k12 * 1)) 0 [.int .i64 n18] →
 I2 (wr (k12 + (1 : Int))) w20 ∧ μ2 (wr (k12 + (1 : Int))) w20 < μ2 k12 w11)
 (I1 (wr (i3 + (1 : Int))) w11 ∧ μ1 (wr (i3 + (1 : Int))) w11 < μ1 i3 w2))
 (K (.tuple #[]) w2)
def hollowaybook_Book_putInts_an : An := ⟨[(1, [(2, .int .i64)]), (5, [(4, .int .i64)])], [(7, (13, .st 0 (.st 1 (.st 2 (.st 3 (.st 4 (.st 5 (.st 6 (.st 7 (.st 8 (.st 9 (.st 10 (.st 11 (.st 12 .done)))))))))))), 0))], []⟩
theorem hollowaybook_Book_putInts_lift {b_1 : Nat} {w : World} {K : Value → World → Prop} (h : hollowaybook_Book_putInts_sh b_1 w K) : Calls Try.prog fn_hollowaybook_Book_putInts #[.pointer (some ⟨b_1, 0, none⟩)] w fun e w' => ∃ v, e = .returned v ∧ K v w' :=
   lift_calls (A := hollowaybook_Book_putInts_an) (c := bodyOf Try.f34) (args := [.pointer (some ⟨b_1, 0, none⟩)]) orc orc_wide Try.func34 (by kernel_rfl) (by kernel_rfl) (Eq.mp (by kernel_rfl : hollowaybook_Book_putInts_sh b_1 w K = wpc orc Try.f34.ntmps hollowaybook_Book_putInts_an (bodyOf Try.f34) (argl 0 [.pointer (some ⟨b_1, 0, none⟩)]) w (retQ orc Try.f34.results.toList K)) h)

-- (*holloway/hollowaybook.Book).putWords
def hollowaybook_Book_putWords_sh (b_1 : Nat) (w : World) (K : Value → World → Prop) : Prop :=
 ∃ (I1 : Int → World → Prop) (μ1 : Int → World → Nat), I1 (0 : Int) w ∧ ∀ (i3 : Int) (w2 : World), I1 i3 w2 →
 ∃ s4 : Sl, w2.cell? ⟨b_1, 4, none⟩ = some (s4.val) ∧
 brB (decide (i3 < (s4.len : Int)))
 (∃ s5 : Sl, w2.cell? ⟨b_1, 4, none⟩ = some (s5.val) ∧
 ∃ a6 : Addr, s5.ptr = some a6 ∧ 0 ≤ i3 ∧ i3 < (s5.len : Int) ∧
 ∃ s7 : Sl, w2.cell? (Addr.add a6 (Int.toNat i3 * 1)) = some (s7.val) ∧
 Calls Try.prog fn_hollowaybook_markWords #[.int .i64 i3, .int .i64 (0 : Int), .int .i64 (s7.len : Int)] w2 fun e8 w9 => ∃ s10 : Sl, e8 = .returned (s10.val) ∧
 ∃ (I2 : Int → World → Prop) (μ2 : Int → World → Nat), I2 (0 : Int) w9 ∧ ∀ (k12 : Int) (w11 : World), I2 k12 w11 →
 brB (decide (k12 < (s10.len : Int)))
 (∀ w13 : World, w13 = World.drew w11 →
 ∃ s14 : Sl, held (Lw w13) ⟨b_1, 4, none⟩ (s14.val) ∧
 ∃ a15 : Addr, s14.ptr = some a15 ∧ 0 ≤ i3 ∧ i3 < (s14.len : Int) ∧
 ∃ s16 : Sl, held (Lw w13) (Addr.add a15 (Int.toNat i3 * 1)) (s16.val) ∧
 ∃ a17 : Addr, s10.ptr = some a17 ∧ 0 ≤ k12 ∧ k12 < (s10.len : Int) ∧
 ∃ t_Name18 : ByteArray, ∃ n_Xt19 : Int, ∃ n_Op20 : Int, ∃ b_Immediate21 : Bool, held (Lw w13) (Addr.add a17 (Int.toNat k12 * 4)) (.string t_Name18) ∧ held (Lw w13) (Addr.add (Addr.add a17 (Int.toNat k12 * 4)) 1) (.int .i64 n_Xt19) ∧ held (Lw w13) (Addr.add (Addr.add a17 (Int.toNat k12 * 4)) 2) (.int .i64 n_Op20) ∧ held (Lw w13) (Addr.add (Addr.add a17 (Int.toNat k12 * 4)) 3) (.bool b_Immediate21) ∧
 ∃ a22 : Addr, s16.ptr = some a22 ∧ 0 ≤ k12 ∧ k12 < (s16.len : Int) ∧
 wrOk w13 (Addr.add a22 (Int.toNat k12 * 4)) 4 ∧ ∀ w23 : World, w23 = stW w13 (Addr.add a22 (Int.toNat k12 * 4)) 0 [.string t_Name18, .int .i64 n_Xt19, .int .i64 n_Op20, .bool b_Immediate21] →
 I2 (wr (k12 + (1 : Int))) w23 ∧ μ2 (wr (k12 + (1 : Int))) w23 < μ2 k12 w11)
 (I1 (wr (i3 + (1 : Int))) w11 ∧ μ1 (wr (i3 + (1 : Int))) w11 < μ1 i3 w2))
 (K (.tuple #[]) w2)
def hollowaybook_Book_putWords_an : An := ⟨[(1, [(2, .int .i64)]), (5, [(4, .int .i64)])], [(7, (13, .st 0 (.st 1 (.st 2 (.st 3 (.st 4 (.st 5 (.st 6 (.st 7 (.st 8 (.st 9 (.st 10 (.st 11 (.st 12 .done)))))))))))), 0))], []⟩
theorem hollowaybook_Book_putWords_lift {b_1 : Nat} {w : World} {K : Value → World → Prop} (h : hollowaybook_Book_putWords_sh b_1 w K) : Calls Try.prog fn_hollowaybook_Book_putWords #[.pointer (some ⟨b_1, 0, none⟩)] w fun e w' => ∃ v, e = .returned v ∧ K v w' :=
   lift_calls (A := hollowaybook_Book_putWords_an) (c := bodyOf Try.f35) (args := [.pointer (some ⟨b_1, 0, none⟩)]) orc orc_wide Try.func35 (by kernel_rfl) (by kernel_rfl) (Eq.mp (by kernel_rfl : hollowaybook_Book_putWords_sh b_1 w K = wpc orc Try.f35.ntmps hollowaybook_Book_putWords_an (bodyOf Try.f35) (argl 0 [.pointer (some ⟨b_1, 0, none⟩)]) w (retQ orc Try.f35.results.toList K)) h)

-- (*holloway/hollowaybook.Book).putSeens
def hollowaybook_Book_putSeens_sh (b_1 : Nat) (w : World) (K : Value → World → Prop) : Prop :=
 ∃ (I1 : Int → World → Prop) (μ1 : Int → World → Nat), I1 (0 : Int) w ∧ ∀ (i3 : Int) (w2 : World), I1 i3 w2 →
 ∃ s4 : Sl, w2.cell? ⟨b_1, 6, none⟩ = some (s4.val) ∧
 brB (decide (i3 < (s4.len : Int)))
 (∃ s5 : Sl, w2.cell? ⟨b_1, 6, none⟩ = some (s5.val) ∧
 ∃ a6 : Addr, s5.ptr = some a6 ∧ 0 ≤ i3 ∧ i3 < (s5.len : Int) ∧
 ∃ s7 : Sl, w2.cell? (Addr.add a6 (Int.toNat i3 * 1)) = some (s7.val) ∧
 Calls Try.prog fn_hollowaybook_markSeens #[.int .i64 i3, .int .i64 (0 : Int), .int .i64 (s7.len : Int)] w2 fun e8 w9 => ∃ s10 : Sl, e8 = .returned (s10.val) ∧
 ∃ (I2 : Int → World → Prop) (μ2 : Int → World → Nat), I2 (0 : Int) w9 ∧ ∀ (k12 : Int) (w11 : World), I2 k12 w11 →
 brB (decide (k12 < (s10.len : Int)))
 (∀ w13 : World, w13 = World.drew w11 →
 ∃ s14 : Sl, held (Lw w13) ⟨b_1, 6, none⟩ (s14.val) ∧
 ∃ a15 : Addr, s14.ptr = some a15 ∧ 0 ≤ i3 ∧ i3 < (s14.len : Int) ∧
 ∃ s16 : Sl, held (Lw w13) (Addr.add a15 (Int.toNat i3 * 1)) (s16.val) ∧
 ∃ a17 : Addr, s10.ptr = some a17 ∧ 0 ≤ k12 ∧ k12 < (s10.len : Int) ∧
 ∃ n_Ip18 : Int, ∃ n_Cell19 : Int, ∃ n_Arg20 : Int, ∃ n_Next21 : Int, held (Lw w13) (Addr.add a17 (Int.toNat k12 * 4)) (.int .i64 n_Ip18) ∧ held (Lw w13) (Addr.add (Addr.add a17 (Int.toNat k12 * 4)) 1) (.int .i64 n_Cell19) ∧ held (Lw w13) (Addr.add (Addr.add a17 (Int.toNat k12 * 4)) 2) (.int .i64 n_Arg20) ∧ held (Lw w13) (Addr.add (Addr.add a17 (Int.toNat k12 * 4)) 3) (.int .i64 n_Next21) ∧
 ∃ a22 : Addr, s16.ptr = some a22 ∧ 0 ≤ k12 ∧ k12 < (s16.len : Int) ∧
 wrOk w13 (Addr.add a22 (Int.toNat k12 * 4)) 4 ∧ ∀ w23 : World, w23 = stW w13 (Addr.add a22 (Int.toNat k12 * 4)) 0 [.int .i64 n_Ip18, .int .i64 n_Cell19, .int .i64 n_Arg20, .int .i64 n_Next21] →
 I2 (wr (k12 + (1 : Int))) w23 ∧ μ2 (wr (k12 + (1 : Int))) w23 < μ2 k12 w11)
 (I1 (wr (i3 + (1 : Int))) w11 ∧ μ1 (wr (i3 + (1 : Int))) w11 < μ1 i3 w2))
 (K (.tuple #[]) w2)
def hollowaybook_Book_putSeens_an : An := ⟨[(1, [(2, .int .i64)]), (5, [(4, .int .i64)])], [(7, (13, .st 0 (.st 1 (.st 2 (.st 3 (.st 4 (.st 5 (.st 6 (.st 7 (.st 8 (.st 9 (.st 10 (.st 11 (.st 12 .done)))))))))))), 0))], []⟩
theorem hollowaybook_Book_putSeens_lift {b_1 : Nat} {w : World} {K : Value → World → Prop} (h : hollowaybook_Book_putSeens_sh b_1 w K) : Calls Try.prog fn_hollowaybook_Book_putSeens #[.pointer (some ⟨b_1, 0, none⟩)] w fun e w' => ∃ v, e = .returned v ∧ K v w' :=
   lift_calls (A := hollowaybook_Book_putSeens_an) (c := bodyOf Try.f36) (args := [.pointer (some ⟨b_1, 0, none⟩)]) orc orc_wide Try.func36 (by kernel_rfl) (by kernel_rfl) (Eq.mp (by kernel_rfl : hollowaybook_Book_putSeens_sh b_1 w K = wpc orc Try.f36.ntmps hollowaybook_Book_putSeens_an (bodyOf Try.f36) (argl 0 [.pointer (some ⟨b_1, 0, none⟩)]) w (retQ orc Try.f36.results.toList K)) h)

-- (*holloway/hollowaybook.Book).putCodes
def hollowaybook_Book_putCodes_sh (b_1 : Nat) (w : World) (K : Value → World → Prop) : Prop :=
 ∃ (I1 : Int → World → Prop) (μ1 : Int → World → Nat), I1 (0 : Int) w ∧ ∀ (i3 : Int) (w2 : World), I1 i3 w2 →
 ∃ s4 : Sl, w2.cell? ⟨b_1, 8, none⟩ = some (s4.val) ∧
 brB (decide (i3 < (s4.len : Int)))
 (∃ s5 : Sl, w2.cell? ⟨b_1, 8, none⟩ = some (s5.val) ∧
 ∃ a6 : Addr, s5.ptr = some a6 ∧ 0 ≤ i3 ∧ i3 < (s5.len : Int) ∧
 ∃ s7 : Sl, w2.cell? (Addr.add a6 (Int.toNat i3 * 1)) = some (s7.val) ∧
 Calls Try.prog fn_hollowaybook_markCodes #[.int .i64 i3, .int .i64 (0 : Int), .int .i64 (s7.len : Int)] w2 fun e8 w9 => ∃ s10 : Sl, e8 = .returned (s10.val) ∧
 ∃ (I2 : Int → World → Prop) (μ2 : Int → World → Nat), I2 (0 : Int) w9 ∧ ∀ (k12 : Int) (w11 : World), I2 k12 w11 →
 brB (decide (k12 < (s10.len : Int)))
 (∀ w13 : World, w13 = World.drew w11 →
 ∃ s14 : Sl, held (Lw w13) ⟨b_1, 8, none⟩ (s14.val) ∧
 ∃ a15 : Addr, s14.ptr = some a15 ∧ 0 ≤ i3 ∧ i3 < (s14.len : Int) ∧
 ∃ s16 : Sl, held (Lw w13) (Addr.add a15 (Int.toNat i3 * 1)) (s16.val) ∧
 ∃ a17 : Addr, s10.ptr = some a17 ∧ 0 ≤ k12 ∧ k12 < (s10.len : Int) ∧
 ∃ n_Op18 : Int, ∃ n_A19 : Int, ∃ n_B20 : Int, ∃ n_C21 : Int, ∃ n_X22 : Int, held (Lw w13) (Addr.add a17 (Int.toNat k12 * 5)) (.int .i64 n_Op18) ∧ held (Lw w13) (Addr.add (Addr.add a17 (Int.toNat k12 * 5)) 1) (.int .i64 n_A19) ∧ held (Lw w13) (Addr.add (Addr.add a17 (Int.toNat k12 * 5)) 2) (.int .i64 n_B20) ∧ held (Lw w13) (Addr.add (Addr.add a17 (Int.toNat k12 * 5)) 3) (.int .i64 n_C21) ∧ held (Lw w13) (Addr.add (Addr.add a17 (Int.toNat k12 * 5)) 4) (.int .i64 n_X22) ∧
 ∃ a23 : Addr, s16.ptr = some a23 ∧ 0 ≤ k12 ∧ k12 < (s16.len : Int) ∧
 wrOk w13 (Addr.add a23 (Int.toNat k12 * 5)) 5 ∧ ∀ w24 : World, w24 = stW w13 (Addr.add a23 (Int.toNat k12 * 5)) 0 [.int .i64 n_Op18, .int .i64 n_A19, .int .i64 n_B20, .int .i64 n_C21, .int .i64 n_X22] →
 I2 (wr (k12 + (1 : Int))) w24 ∧ μ2 (wr (k12 + (1 : Int))) w24 < μ2 k12 w11)
 (I1 (wr (i3 + (1 : Int))) w11 ∧ μ1 (wr (i3 + (1 : Int))) w11 < μ1 i3 w2))
 (K (.tuple #[]) w2)
def hollowaybook_Book_putCodes_an : An := ⟨[(1, [(2, .int .i64)]), (5, [(4, .int .i64)])], [(7, (13, .st 0 (.st 1 (.st 2 (.st 3 (.st 4 (.st 5 (.st 6 (.st 7 (.st 8 (.st 9 (.st 10 (.st 11 (.st 12 .done)))))))))))), 0))], []⟩
theorem hollowaybook_Book_putCodes_lift {b_1 : Nat} {w : World} {K : Value → World → Prop} (h : hollowaybook_Book_putCodes_sh b_1 w K) : Calls Try.prog fn_hollowaybook_Book_putCodes #[.pointer (some ⟨b_1, 0, none⟩)] w fun e w' => ∃ v, e = .returned v ∧ K v w' :=
   lift_calls (A := hollowaybook_Book_putCodes_an) (c := bodyOf Try.f37) (args := [.pointer (some ⟨b_1, 0, none⟩)]) orc orc_wide Try.func37 (by kernel_rfl) (by kernel_rfl) (Eq.mp (by kernel_rfl : hollowaybook_Book_putCodes_sh b_1 w K = wpc orc Try.f37.ntmps hollowaybook_Book_putCodes_an (bodyOf Try.f37) (argl 0 [.pointer (some ⟨b_1, 0, none⟩)]) w (retQ orc Try.f37.results.toList K)) h)

-- (*holloway/hollowaybook.Book).growTexts
def hollowaybook_Book_growTexts_sh (b_1 : Nat) (w : World) (K : Value → World → Prop) : Prop :=
 ∃ (I1 : Sl → Int → World → Prop) (μ1 : Sl → Int → World → Nat), I1 (⟨none, 0, 0⟩ : Sl) (0 : Int) w ∧ ∀ (out16 : Sl) (i3 : Int) (w2 : World), I1 out16 i3 w2 →
 ∃ s4 : Sl, w2.cell? ⟨b_1, 0, none⟩ = some (s4.val) ∧
 brB (decide (i3 < (s4.len : Int)))
 (∃ s5 : Sl, w2.cell? ⟨b_1, 0, none⟩ = some (s5.val) ∧
 ∃ a6 : Addr, s5.ptr = some a6 ∧ 0 ≤ i3 ∧ i3 < (s5.len : Int) ∧
 ∃ s7 : Sl, w2.cell? (Addr.add a6 (Int.toNat i3 * 1)) = some (s7.val) ∧
 ∃ (I2 : Sl → Int → World → Prop) (μ2 : Sl → Int → World → Nat), I2 s7 (0 : Int) w2 ∧ ∀ (l10 : Sl) (n9 : Int) (w8 : World), I2 l10 n9 w8 →
 brB (decide (n9 < (12 : Int)))
 (Calls Try.prog fn_hollowaybook_markTexts #[.int .i64 i3, .int .i64 (l10.len : Int), .int .i64 (1 : Int)] w8 fun e11 w12 => ∃ s13 : Sl, e11 = .returned (s13.val) ∧
 ∃ s14 : Sl, ∃ w15 : World, (Builtin.append_ #[T_sl_string, T_sl_string] T_sl_string #[l10.val, s13.val]).run Try.prog w12 = .ok (s14.val) w15 ∧
 I2 s14 (wr (n9 + (1 : Int))) w15 ∧ μ2 s14 (wr (n9 + (1 : Int))) w15 < μ2 l10 n9 w8)
 (Calls Try.prog fn_hollowaybook_markTexts #[.int .i64 i3, .int .i64 (l10.len : Int), .int .i64 (60 : Int)] w8 fun e17 w18 => ∃ s19 : Sl, e17 = .returned (s19.val) ∧
 ∃ s20 : Sl, ∃ w21 : World, (Builtin.append_ #[T_sl_string, T_sl_string] T_sl_string #[l10.val, s19.val]).run Try.prog w18 = .ok (s20.val) w21 ∧
 ∀ (b22 : Nat) (w23 : World), b22 = w21.heap.size → w23 = World.alloc w21 (.cells #[s20.val] T_sl_string) →
 ∃ s24 : Sl, ∃ w25 : World, (Builtin.append_ #[T_sl_sl_string, T_sl_sl_string] T_sl_sl_string #[out16.val, .slice (some ⟨b22, 0, none⟩) 1 1]).run Try.prog w23 = .ok (s24.val) w25 ∧
 I1 s24 (wr (i3 + (1 : Int))) w25 ∧ μ1 s24 (wr (i3 + (1 : Int))) w25 < μ1 out16 i3 w2))
 (K (out16.val) w2)
def hollowaybook_Book_growTexts_an : An := ⟨[(3, [(3, .sl), (4, .int .i64)]), (7, [(5, .sl), (6, .int .i64)])], [], []⟩
theorem hollowaybook_Book_growTexts_lift {b_1 : Nat} {w : World} {K : Value → World → Prop} (h : hollowaybook_Book_growTexts_sh b_1 w K) : Calls Try.prog fn_hollowaybook_Book_growTexts #[.pointer (some ⟨b_1, 0, none⟩)] w fun e w' => ∃ v, e = .returned v ∧ K v w' :=
   lift_calls (A := hollowaybook_Book_growTexts_an) (c := bodyOf Try.f38) (args := [.pointer (some ⟨b_1, 0, none⟩)]) orc orc_wide Try.func38 (by kernel_rfl) (by kernel_rfl) (Eq.mp (by kernel_rfl : hollowaybook_Book_growTexts_sh b_1 w K = wpc orc Try.f38.ntmps hollowaybook_Book_growTexts_an (bodyOf Try.f38) (argl 0 [.pointer (some ⟨b_1, 0, none⟩)]) w (retQ orc Try.f38.results.toList K)) h)

-- (*holloway/hollowaybook.Book).growInts
def hollowaybook_Book_growInts_sh (b_1 : Nat) (w : World) (K : Value → World → Prop) : Prop :=
 ∃ (I1 : Sl → Int → World → Prop) (μ1 : Sl → Int → World → Nat), I1 (⟨none, 0, 0⟩ : Sl) (0 : Int) w ∧ ∀ (out16 : Sl) (i3 : Int) (w2 : World), I1 out16 i3 w2 →
 ∃ s4 : Sl, w2.cell? ⟨b_1, 2, none⟩ = some (s4.val) ∧
 brB (decide (i3 < (s4.len : Int)))
 (∃ s5 : Sl, w2.cell? ⟨b_1, 2, none⟩ = some (s5.val) ∧
 ∃ a6 : Addr, s5.ptr = some a6 ∧ 0 ≤ i3 ∧ i3 < (s5.len : Int) ∧
 ∃ s7 : Sl, w2.cell? (Addr.add a6 (Int.toNat i3 * 1)) = some (s7.val) ∧
 ∃ (I2 : Sl → Int → World → Prop) (μ2 : Sl → Int → World → Nat), I2 s7 (0 : Int) w2 ∧ ∀ (l10 : Sl) (n9 : Int) (w8 : World), I2 l10 n9 w8 →
 brB (decide (n9 < (12 : Int)))
 (Calls Try.prog fn_hollowaybook_markInts #[.int .i64 i3, .int .i64 (l10.len : Int), .int .i64 (1 : Int)] w8 fun e11 w12 => ∃ s13 : Sl, e11 = .returned (s13.val) ∧
 ∃ s14 : Sl, ∃ w15 : World, (Builtin.append_ #[T_sl_int, T_sl_int] T_sl_int #[l10.val, s13.val]).run Try.prog w12 = .ok (s14.val) w15 ∧
 I2 s14 (wr (n9 + (1 : Int))) w15 ∧ μ2 s14 (wr (n9 + (1 : Int))) w15 < μ2 l10 n9 w8)
 (Calls Try.prog fn_hollowaybook_markInts #[.int .i64 i3, .int .i64 (l10.len : Int), .int .i64 (60 : Int)] w8 fun e17 w18 => ∃ s19 : Sl, e17 = .returned (s19.val) ∧
 ∃ s20 : Sl, ∃ w21 : World, (Builtin.append_ #[T_sl_int, T_sl_int] T_sl_int #[l10.val, s19.val]).run Try.prog w18 = .ok (s20.val) w21 ∧
 ∀ (b22 : Nat) (w23 : World), b22 = w21.heap.size → w23 = World.alloc w21 (.cells #[s20.val] T_sl_int) →
 ∃ s24 : Sl, ∃ w25 : World, (Builtin.append_ #[T_sl_sl_int, T_sl_sl_int] T_sl_sl_int #[out16.val, .slice (some ⟨b22, 0, none⟩) 1 1]).run Try.prog w23 = .ok (s24.val) w25 ∧
 I1 s24 (wr (i3 + (1 : Int))) w25 ∧ μ1 s24 (wr (i3 + (1 : Int))) w25 < μ1 out16 i3 w2))
 (K (out16.val) w2)
def hollowaybook_Book_growInts_an : An := ⟨[(3, [(3, .sl), (4, .int .i64)]), (7, [(5, .sl), (6, .int .i64)])], [], []⟩
theorem hollowaybook_Book_growInts_lift {b_1 : Nat} {w : World} {K : Value → World → Prop} (h : hollowaybook_Book_growInts_sh b_1 w K) : Calls Try.prog fn_hollowaybook_Book_growInts #[.pointer (some ⟨b_1, 0, none⟩)] w fun e w' => ∃ v, e = .returned v ∧ K v w' :=
   lift_calls (A := hollowaybook_Book_growInts_an) (c := bodyOf Try.f39) (args := [.pointer (some ⟨b_1, 0, none⟩)]) orc orc_wide Try.func39 (by kernel_rfl) (by kernel_rfl) (Eq.mp (by kernel_rfl : hollowaybook_Book_growInts_sh b_1 w K = wpc orc Try.f39.ntmps hollowaybook_Book_growInts_an (bodyOf Try.f39) (argl 0 [.pointer (some ⟨b_1, 0, none⟩)]) w (retQ orc Try.f39.results.toList K)) h)

-- (*holloway/hollowaybook.Book).growWords
def hollowaybook_Book_growWords_sh (b_1 : Nat) (w : World) (K : Value → World → Prop) : Prop :=
 ∃ (I1 : Sl → Int → World → Prop) (μ1 : Sl → Int → World → Nat), I1 (⟨none, 0, 0⟩ : Sl) (0 : Int) w ∧ ∀ (out16 : Sl) (i3 : Int) (w2 : World), I1 out16 i3 w2 →
 ∃ s4 : Sl, w2.cell? ⟨b_1, 4, none⟩ = some (s4.val) ∧
 brB (decide (i3 < (s4.len : Int)))
 (∃ s5 : Sl, w2.cell? ⟨b_1, 4, none⟩ = some (s5.val) ∧
 ∃ a6 : Addr, s5.ptr = some a6 ∧ 0 ≤ i3 ∧ i3 < (s5.len : Int) ∧
 ∃ s7 : Sl, w2.cell? (Addr.add a6 (Int.toNat i3 * 1)) = some (s7.val) ∧
 ∃ (I2 : Sl → Int → World → Prop) (μ2 : Sl → Int → World → Nat), I2 s7 (0 : Int) w2 ∧ ∀ (l10 : Sl) (n9 : Int) (w8 : World), I2 l10 n9 w8 →
 brB (decide (n9 < (12 : Int)))
 (Calls Try.prog fn_hollowaybook_markWords #[.int .i64 i3, .int .i64 (l10.len : Int), .int .i64 (1 : Int)] w8 fun e11 w12 => ∃ s13 : Sl, e11 = .returned (s13.val) ∧
 ∃ s14 : Sl, ∃ w15 : World, (Builtin.append_ #[T_sl_api_Word, T_sl_api_Word] T_sl_api_Word #[l10.val, s13.val]).run Try.prog w12 = .ok (s14.val) w15 ∧
 I2 s14 (wr (n9 + (1 : Int))) w15 ∧ μ2 s14 (wr (n9 + (1 : Int))) w15 < μ2 l10 n9 w8)
 (Calls Try.prog fn_hollowaybook_markWords #[.int .i64 i3, .int .i64 (l10.len : Int), .int .i64 (60 : Int)] w8 fun e17 w18 => ∃ s19 : Sl, e17 = .returned (s19.val) ∧
 ∃ s20 : Sl, ∃ w21 : World, (Builtin.append_ #[T_sl_api_Word, T_sl_api_Word] T_sl_api_Word #[l10.val, s19.val]).run Try.prog w18 = .ok (s20.val) w21 ∧
 ∀ (b22 : Nat) (w23 : World), b22 = w21.heap.size → w23 = World.alloc w21 (.cells #[s20.val] T_sl_api_Word) →
 ∃ s24 : Sl, ∃ w25 : World, (Builtin.append_ #[T_sl_sl_api_Word, T_sl_sl_api_Word] T_sl_sl_api_Word #[out16.val, .slice (some ⟨b22, 0, none⟩) 1 1]).run Try.prog w23 = .ok (s24.val) w25 ∧
 I1 s24 (wr (i3 + (1 : Int))) w25 ∧ μ1 s24 (wr (i3 + (1 : Int))) w25 < μ1 out16 i3 w2))
 (K (out16.val) w2)
def hollowaybook_Book_growWords_an : An := ⟨[(3, [(3, .sl), (4, .int .i64)]), (7, [(5, .sl), (6, .int .i64)])], [], []⟩
theorem hollowaybook_Book_growWords_lift {b_1 : Nat} {w : World} {K : Value → World → Prop} (h : hollowaybook_Book_growWords_sh b_1 w K) : Calls Try.prog fn_hollowaybook_Book_growWords #[.pointer (some ⟨b_1, 0, none⟩)] w fun e w' => ∃ v, e = .returned v ∧ K v w' :=
   lift_calls (A := hollowaybook_Book_growWords_an) (c := bodyOf Try.f40) (args := [.pointer (some ⟨b_1, 0, none⟩)]) orc orc_wide Try.func40 (by kernel_rfl) (by kernel_rfl) (Eq.mp (by kernel_rfl : hollowaybook_Book_growWords_sh b_1 w K = wpc orc Try.f40.ntmps hollowaybook_Book_growWords_an (bodyOf Try.f40) (argl 0 [.pointer (some ⟨b_1, 0, none⟩)]) w (retQ orc Try.f40.results.toList K)) h)

-- (*holloway/hollowaybook.Book).growSeens
def hollowaybook_Book_growSeens_sh (b_1 : Nat) (w : World) (K : Value → World → Prop) : Prop :=
 ∃ (I1 : Sl → Int → World → Prop) (μ1 : Sl → Int → World → Nat), I1 (⟨none, 0, 0⟩ : Sl) (0 : Int) w ∧ ∀ (out16 : Sl) (i3 : Int) (w2 : World), I1 out16 i3 w2 →
 ∃ s4 : Sl, w2.cell? ⟨b_1, 6, none⟩ = some (s4.val) ∧
 brB (decide (i3 < (s4.len : Int)))
 (∃ s5 : Sl, w2.cell? ⟨b_1, 6, none⟩ = some (s5.val) ∧
 ∃ a6 : Addr, s5.ptr = some a6 ∧ 0 ≤ i3 ∧ i3 < (s5.len : Int) ∧
 ∃ s7 : Sl, w2.cell? (Addr.add a6 (Int.toNat i3 * 1)) = some (s7.val) ∧
 ∃ (I2 : Sl → Int → World → Prop) (μ2 : Sl → Int → World → Nat), I2 s7 (0 : Int) w2 ∧ ∀ (l10 : Sl) (n9 : Int) (w8 : World), I2 l10 n9 w8 →
 brB (decide (n9 < (12 : Int)))
 (Calls Try.prog fn_hollowaybook_markSeens #[.int .i64 i3, .int .i64 (l10.len : Int), .int .i64 (1 : Int)] w8 fun e11 w12 => ∃ s13 : Sl, e11 = .returned (s13.val) ∧
 ∃ s14 : Sl, ∃ w15 : World, (Builtin.append_ #[T_sl_api_Seen, T_sl_api_Seen] T_sl_api_Seen #[l10.val, s13.val]).run Try.prog w12 = .ok (s14.val) w15 ∧
 I2 s14 (wr (n9 + (1 : Int))) w15 ∧ μ2 s14 (wr (n9 + (1 : Int))) w15 < μ2 l10 n9 w8)
 (Calls Try.prog fn_hollowaybook_markSeens #[.int .i64 i3, .int .i64 (l10.len : Int), .int .i64 (60 : Int)] w8 fun e17 w18 => ∃ s19 : Sl, e17 = .returned (s19.val) ∧
 ∃ s20 : Sl, ∃ w21 : World, (Builtin.append_ #[T_sl_api_Seen, T_sl_api_Seen] T_sl_api_Seen #[l10.val, s19.val]).run Try.prog w18 = .ok (s20.val) w21 ∧
 ∀ (b22 : Nat) (w23 : World), b22 = w21.heap.size → w23 = World.alloc w21 (.cells #[s20.val] T_sl_api_Seen) →
 ∃ s24 : Sl, ∃ w25 : World, (Builtin.append_ #[T_sl_sl_api_Seen, T_sl_sl_api_Seen] T_sl_sl_api_Seen #[out16.val, .slice (some ⟨b22, 0, none⟩) 1 1]).run Try.prog w23 = .ok (s24.val) w25 ∧
 I1 s24 (wr (i3 + (1 : Int))) w25 ∧ μ1 s24 (wr (i3 + (1 : Int))) w25 < μ1 out16 i3 w2))
 (K (out16.val) w2)
def hollowaybook_Book_growSeens_an : An := ⟨[(3, [(3, .sl), (4, .int .i64)]), (7, [(5, .sl), (6, .int .i64)])], [], []⟩
theorem hollowaybook_Book_growSeens_lift {b_1 : Nat} {w : World} {K : Value → World → Prop} (h : hollowaybook_Book_growSeens_sh b_1 w K) : Calls Try.prog fn_hollowaybook_Book_growSeens #[.pointer (some ⟨b_1, 0, none⟩)] w fun e w' => ∃ v, e = .returned v ∧ K v w' :=
   lift_calls (A := hollowaybook_Book_growSeens_an) (c := bodyOf Try.f41) (args := [.pointer (some ⟨b_1, 0, none⟩)]) orc orc_wide Try.func41 (by kernel_rfl) (by kernel_rfl) (Eq.mp (by kernel_rfl : hollowaybook_Book_growSeens_sh b_1 w K = wpc orc Try.f41.ntmps hollowaybook_Book_growSeens_an (bodyOf Try.f41) (argl 0 [.pointer (some ⟨b_1, 0, none⟩)]) w (retQ orc Try.f41.results.toList K)) h)

-- (*holloway/hollowaybook.Book).growCodes
def hollowaybook_Book_growCodes_sh (b_1 : Nat) (w : World) (K : Value → World → Prop) : Prop :=
 ∃ (I1 : Sl → Int → World → Prop) (μ1 : Sl → Int → World → Nat), I1 (⟨none, 0, 0⟩ : Sl) (0 : Int) w ∧ ∀ (out16 : Sl) (i3 : Int) (w2 : World), I1 out16 i3 w2 →
 ∃ s4 : Sl, w2.cell? ⟨b_1, 8, none⟩ = some (s4.val) ∧
 brB (decide (i3 < (s4.len : Int)))
 (∃ s5 : Sl, w2.cell? ⟨b_1, 8, none⟩ = some (s5.val) ∧
 ∃ a6 : Addr, s5.ptr = some a6 ∧ 0 ≤ i3 ∧ i3 < (s5.len : Int) ∧
 ∃ s7 : Sl, w2.cell? (Addr.add a6 (Int.toNat i3 * 1)) = some (s7.val) ∧
 ∃ (I2 : Sl → Int → World → Prop) (μ2 : Sl → Int → World → Nat), I2 s7 (0 : Int) w2 ∧ ∀ (l10 : Sl) (n9 : Int) (w8 : World), I2 l10 n9 w8 →
 brB (decide (n9 < (12 : Int)))
 (Calls Try.prog fn_hollowaybook_markCodes #[.int .i64 i3, .int .i64 (l10.len : Int), .int .i64 (1 : Int)] w8 fun e11 w12 => ∃ s13 : Sl, e11 = .returned (s13.val) ∧
 ∃ s14 : Sl, ∃ w15 : World, (Builtin.append_ #[T_sl_api_Ins, T_sl_api_Ins] T_sl_api_Ins #[l10.val, s13.val]).run Try.prog w12 = .ok (s14.val) w15 ∧
 I2 s14 (wr (n9 + (1 : Int))) w15 ∧ μ2 s14 (wr (n9 + (1 : Int))) w15 < μ2 l10 n9 w8)
 (Calls Try.prog fn_hollowaybook_markCodes #[.int .i64 i3, .int .i64 (l10.len : Int), .int .i64 (60 : Int)] w8 fun e17 w18 => ∃ s19 : Sl, e17 = .returned (s19.val) ∧
 ∃ s20 : Sl, ∃ w21 : World, (Builtin.append_ #[T_sl_api_Ins, T_sl_api_Ins] T_sl_api_Ins #[l10.val, s19.val]).run Try.prog w18 = .ok (s20.val) w21 ∧
 ∀ (b22 : Nat) (w23 : World), b22 = w21.heap.size → w23 = World.alloc w21 (.cells #[s20.val] T_sl_api_Ins) →
 ∃ s24 : Sl, ∃ w25 : World, (Builtin.append_ #[T_sl_sl_api_Ins, T_sl_sl_api_Ins] T_sl_sl_api_Ins #[out16.val, .slice (some ⟨b22, 0, none⟩) 1 1]).run Try.prog w23 = .ok (s24.val) w25 ∧
 I1 s24 (wr (i3 + (1 : Int))) w25 ∧ μ1 s24 (wr (i3 + (1 : Int))) w25 < μ1 out16 i3 w2))
 (K (out16.val) w2)
def hollowaybook_Book_growCodes_an : An := ⟨[(3, [(3, .sl), (4, .int .i64)]), (7, [(5, .sl), (6, .int .i64)])], [], []⟩
theorem hollowaybook_Book_growCodes_lift {b_1 : Nat} {w : World} {K : Value → World → Prop} (h : hollowaybook_Book_growCodes_sh b_1 w K) : Calls Try.prog fn_hollowaybook_Book_growCodes #[.pointer (some ⟨b_1, 0, none⟩)] w fun e w' => ∃ v, e = .returned v ∧ K v w' :=
   lift_calls (A := hollowaybook_Book_growCodes_an) (c := bodyOf Try.f42) (args := [.pointer (some ⟨b_1, 0, none⟩)]) orc orc_wide Try.func42 (by kernel_rfl) (by kernel_rfl) (Eq.mp (by kernel_rfl : hollowaybook_Book_growCodes_sh b_1 w K = wpc orc Try.f42.ntmps hollowaybook_Book_growCodes_an (bodyOf Try.f42) (argl 0 [.pointer (some ⟨b_1, 0, none⟩)]) w (retQ orc Try.f42.results.toList K)) h)

-- (*holloway/hollowaybook.Book).growExits
def hollowaybook_Book_growExits_sh (b_1 : Nat) (w : World) (K : Value → World → Prop) : Prop :=
 ∃ (I1 : Sl → Int → World → Prop) (μ1 : Sl → Int → World → Nat), I1 (⟨none, 0, 0⟩ : Sl) (0 : Int) w ∧ ∀ (out16 : Sl) (i3 : Int) (w2 : World), I1 out16 i3 w2 →
 ∃ s4 : Sl, w2.cell? ⟨b_1, 10, none⟩ = some (s4.val) ∧
 brB (decide (i3 < (s4.len : Int)))
 (∃ s5 : Sl, w2.cell? ⟨b_1, 10, none⟩ = some (s5.val) ∧
 ∃ a6 : Addr, s5.ptr = some a6 ∧ 0 ≤ i3 ∧ i3 < (s5.len : Int) ∧
 ∃ s7 : Sl, w2.cell? (Addr.add a6 (Int.toNat i3 * 1)) = some (s7.val) ∧
 ∃ (I2 : Sl → Int → World → Prop) (μ2 : Sl → Int → World → Nat), I2 s7 (0 : Int) w2 ∧ ∀ (l10 : Sl) (n9 : Int) (w8 : World), I2 l10 n9 w8 →
 brB (decide (n9 < (12 : Int)))
 (Calls Try.prog fn_hollowaybook_markExits #[.int .i64 i3, .int .i64 (l10.len : Int), .int .i64 (1 : Int)] w8 fun e11 w12 => ∃ s13 : Sl, e11 = .returned (s13.val) ∧
 ∃ s14 : Sl, ∃ w15 : World, (Builtin.append_ #[T_sl_api_Out, T_sl_api_Out] T_sl_api_Out #[l10.val, s13.val]).run Try.prog w12 = .ok (s14.val) w15 ∧
 I2 s14 (wr (n9 + (1 : Int))) w15 ∧ μ2 s14 (wr (n9 + (1 : Int))) w15 < μ2 l10 n9 w8)
 (Calls Try.prog fn_hollowaybook_markExits #[.int .i64 i3, .int .i64 (l10.len : Int), .int .i64 (60 : Int)] w8 fun e17 w18 => ∃ s19 : Sl, e17 = .returned (s19.val) ∧
 ∃ s20 : Sl, ∃ w21 : World, (Builtin.append_ #[T_sl_api_Out, T_sl_api_Out] T_sl_api_Out #[l10.val, s19.val]).run Try.prog w18 = .ok (s20.val) w21 ∧
 ∀ (b22 : Nat) (w23 : World), b22 = w21.heap.size → w23 = World.alloc w21 (.cells #[s20.val] T_sl_api_Out) →
 ∃ s24 : Sl, ∃ w25 : World, (Builtin.append_ #[T_sl_sl_api_Out, T_sl_sl_api_Out] T_sl_sl_api_Out #[out16.val, .slice (some ⟨b22, 0, none⟩) 1 1]).run Try.prog w23 = .ok (s24.val) w25 ∧
 I1 s24 (wr (i3 + (1 : Int))) w25 ∧ μ1 s24 (wr (i3 + (1 : Int))) w25 < μ1 out16 i3 w2))
 (K (out16.val) w2)
def hollowaybook_Book_growExits_an : An := ⟨[(3, [(3, .sl), (4, .int .i64)]), (7, [(5, .sl), (6, .int .i64)])], [], []⟩
theorem hollowaybook_Book_growExits_lift {b_1 : Nat} {w : World} {K : Value → World → Prop} (h : hollowaybook_Book_growExits_sh b_1 w K) : Calls Try.prog fn_hollowaybook_Book_growExits #[.pointer (some ⟨b_1, 0, none⟩)] w fun e w' => ∃ v, e = .returned v ∧ K v w' :=
   lift_calls (A := hollowaybook_Book_growExits_an) (c := bodyOf Try.f43) (args := [.pointer (some ⟨b_1, 0, none⟩)]) orc orc_wide Try.func43 (by kernel_rfl) (by kernel_rfl) (Eq.mp (by kernel_rfl : hollowaybook_Book_growExits_sh b_1 w K = wpc orc Try.f43.ntmps hollowaybook_Book_growExits_an (bodyOf Try.f43) (argl 0 [.pointer (some ⟨b_1, 0, none⟩)]) w (retQ orc Try.f43.results.toList K)) h)

-- holloway/hollowaybook.markedTexts
def hollowaybook_markedTexts_sh (l_1 : Sl) (w : World) (K : Value → World → Prop) : Prop :=
 ∃ (I1 : Int → World → Prop) (μ1 : Int → World → Nat), I1 (0 : Int) w ∧ ∀ (i3 : Int) (w2 : World), I1 i3 w2 →
 brB (decide (i3 < (l_1.len : Int)))
 (∀ w4 : World, w4 = World.drew w2 →
 ∃ S5 : World → Prop, S5 w4 ∧
 ∃ a6 : Addr, l_1.ptr = some a6 ∧ 0 ≤ i3 ∧ i3 < (l_1.len : Int) ∧
 ∃ s7 : Sl, held S5 (Addr.add a6 (Int.toNat i3 * 1)) (s7.val) ∧
 ∃ a8 : Addr, l_1.ptr = some a8 ∧ 0 ≤ i3 ∧ i3 < (l_1.len : Int) ∧
 ∃ s9 : Sl, held S5 (Addr.add a8 (Int.toNat i3 * 1)) (s9.val) ∧
 Calls Try.prog fn_hollowaybook_markTexts #[.int .i64 i3, .int .i64 (0 : Int), .int .i64 (s9.len : Int)] w4 fun e10 w11 => ∃ s12 : Sl, e10 = .returned (s12.val) ∧
 S5 w11 ∧
 Calls Try.prog fn_hollowaybook_SameTexts #[s7.val, s12.val] w11 fun e13 w14 => ∃ b15 : Bool, e13 = .returned (.bool b15) ∧
 brB (!b15)
 (K (.bool false) w14)
 (I1 (wr (i3 + (1 : Int))) w14 ∧ μ1 (wr (i3 + (1 : Int))) w14 < μ1 i3 w2))
 (K (.bool true) w2)
def hollowaybook_markedTexts_an : An := ⟨[(2, [(3, .int .i64)])], [(4, (11, .st 0 (.st 1 (.st 2 (.st 3 (.st 4 (.st 5 (.st 6 (.st 7 (.st 8 (.st 9 (.ef 10 .done)))))))))), 1))], []⟩
theorem hollowaybook_markedTexts_lift {l_1 : Sl} {w : World} {K : Value → World → Prop} (h : hollowaybook_markedTexts_sh l_1 w K) : Calls Try.prog fn_hollowaybook_markedTexts #[l_1.val] w fun e w' => ∃ v, e = .returned v ∧ K v w' :=
   lift_calls (A := hollowaybook_markedTexts_an) (c := bodyOf Try.f44) (args := [l_1.val]) orc orc_wide Try.func44 (by kernel_rfl) (by kernel_rfl) (Eq.mp (by kernel_rfl : hollowaybook_markedTexts_sh l_1 w K = wpc orc Try.f44.ntmps hollowaybook_markedTexts_an (bodyOf Try.f44) (argl 0 [l_1.val]) w (retQ orc Try.f44.results.toList K)) h)

-- holloway/hollowaybook.markedInts
def hollowaybook_markedInts_sh (l_1 : Sl) (w : World) (K : Value → World → Prop) : Prop :=
 ∃ (I1 : Int → World → Prop) (μ1 : Int → World → Nat), I1 (0 : Int) w ∧ ∀ (i3 : Int) (w2 : World), I1 i3 w2 →
 brB (decide (i3 < (l_1.len : Int)))
 (∀ w4 : World, w4 = World.drew w2 →
 ∃ S5 : World → Prop, S5 w4 ∧
 ∃ a6 : Addr, l_1.ptr = some a6 ∧ 0 ≤ i3 ∧ i3 < (l_1.len : Int) ∧
 ∃ s7 : Sl, held S5 (Addr.add a6 (Int.toNat i3 * 1)) (s7.val) ∧
 ∃ a8 : Addr, l_1.ptr = some a8 ∧ 0 ≤ i3 ∧ i3 < (l_1.len : Int) ∧
 ∃ s9 : Sl, held S5 (Addr.add a8 (Int.toNat i3 * 1)) (s9.val) ∧
 Calls Try.prog fn_hollowaybook_markInts #[.int .i64 i3, .int .i64 (0 : Int), .int .i64 (s9.len : Int)] w4 fun e10 w11 => ∃ s12 : Sl, e10 = .returned (s12.val) ∧
 S5 w11 ∧
 Calls Try.prog fn_hollowaybook_SameInts #[s7.val, s12.val] w11 fun e13 w14 => ∃ b15 : Bool, e13 = .returned (.bool b15) ∧
 brB (!b15)
 (K (.bool false) w14)
 (I1 (wr (i3 + (1 : Int))) w14 ∧ μ1 (wr (i3 + (1 : Int))) w14 < μ1 i3 w2))
 (K (.bool true) w2)
def hollowaybook_markedInts_an : An := ⟨[(2, [(3, .int .i64)])], [(4, (11, .st 0 (.st 1 (.st 2 (.st 3 (.st 4 (.st 5 (.st 6 (.st 7 (.st 8 (.st 9 (.ef 10 .done)))))))))), 1))], []⟩
theorem hollowaybook_markedInts_lift {l_1 : Sl} {w : World} {K : Value → World → Prop} (h : hollowaybook_markedInts_sh l_1 w K) : Calls Try.prog fn_hollowaybook_markedInts #[l_1.val] w fun e w' => ∃ v, e = .returned v ∧ K v w' :=
   lift_calls (A := hollowaybook_markedInts_an) (c := bodyOf Try.f45) (args := [l_1.val]) orc orc_wide Try.func45 (by kernel_rfl) (by kernel_rfl) (Eq.mp (by kernel_rfl : hollowaybook_markedInts_sh l_1 w K = wpc orc Try.f45.ntmps hollowaybook_markedInts_an (bodyOf Try.f45) (argl 0 [l_1.val]) w (retQ orc Try.f45.results.toList K)) h)

-- holloway/hollowaybook.markedWords
def hollowaybook_markedWords_sh (l_1 : Sl) (w : World) (K : Value → World → Prop) : Prop :=
 ∃ (I1 : Int → World → Prop) (μ1 : Int → World → Nat), I1 (0 : Int) w ∧ ∀ (i3 : Int) (w2 : World), I1 i3 w2 →
 brB (decide (i3 < (l_1.len : Int)))
 (∀ w4 : World, w4 = World.drew w2 →
 ∃ S5 : World → Prop, S5 w4 ∧
 ∃ a6 : Addr, l_1.ptr = some a6 ∧ 0 ≤ i3 ∧ i3 < (l_1.len : Int) ∧
 ∃ s7 : Sl, held S5 (Addr.add a6 (Int.toNat i3 * 1)) (s7.val) ∧
 ∃ a8 : Addr, l_1.ptr = some a8 ∧ 0 ≤ i3 ∧ i3 < (l_1.len : Int) ∧
 ∃ s9 : Sl, held S5 (Addr.add a8 (Int.toNat i3 * 1)) (s9.val) ∧
 Calls Try.prog fn_hollowaybook_markWords #[.int .i64 i3, .int .i64 (0 : Int), .int .i64 (s9.len : Int)] w4 fun e10 w11 => ∃ s12 : Sl, e10 = .returned (s12.val) ∧
 S5 w11 ∧
 Calls Try.prog fn_hollowaybook_SameWords #[s7.val, s12.val] w11 fun e13 w14 => ∃ b15 : Bool, e13 = .returned (.bool b15) ∧
 brB (!b15)
 (K (.bool false) w14)
 (I1 (wr (i3 + (1 : Int))) w14 ∧ μ1 (wr (i3 + (1 : Int))) w14 < μ1 i3 w2))
 (K (.bool true) w2)
def hollowaybook_markedWords_an : An := ⟨[(2, [(3, .int .i64)])], [(4, (11, .st 0 (.st 1 (.st 2 (.st 3 (.st 4 (.st 5 (.st 6 (.st 7 (.st 8 (.st 9 (.ef 10 .done)))))))))), 1))], []⟩
theorem hollowaybook_markedWords_lift {l_1 : Sl} {w : World} {K : Value → World → Prop} (h : hollowaybook_markedWords_sh l_1 w K) : Calls Try.prog fn_hollowaybook_markedWords #[l_1.val] w fun e w' => ∃ v, e = .returned v ∧ K v w' :=
   lift_calls (A := hollowaybook_markedWords_an) (c := bodyOf Try.f46) (args := [l_1.val]) orc orc_wide Try.func46 (by kernel_rfl) (by kernel_rfl) (Eq.mp (by kernel_rfl : hollowaybook_markedWords_sh l_1 w K = wpc orc Try.f46.ntmps hollowaybook_markedWords_an (bodyOf Try.f46) (argl 0 [l_1.val]) w (retQ orc Try.f46.results.toList K)) h)

-- holloway/hollowaybook.markedSeens
def hollowaybook_markedSeens_sh (l_1 : Sl) (w : World) (K : Value → World → Prop) : Prop :=
 ∃ (I1 : Int → World → Prop) (μ1 : Int → World → Nat), I1 (0 : Int) w ∧ ∀ (i3 : Int) (w2 : World), I1 i3 w2 →
 brB (decide (i3 < (l_1.len : Int)))
 (∀ w4 : World, w4 = World.drew w2 →
 ∃ S5 : World → Prop, S5 w4 ∧
 ∃ a6 : Addr, l_1.ptr = some a6 ∧ 0 ≤ i3 ∧ i3 < (l_1.len : Int) ∧
 ∃ s7 : Sl, held S5 (Addr.add a6 (Int.toNat i3 * 1)) (s7.val) ∧
 ∃ a8 : Addr, l_1.ptr = some a8 ∧ 0 ≤ i3 ∧ i3 < (l_1.len : Int) ∧
 ∃ s9 : Sl, held S5 (Addr.add a8 (Int.toNat i3 * 1)) (s9.val) ∧
 Calls Try.prog fn_hollowaybook_markSeens #[.int .i64 i3, .int .i64 (0 : Int), .int .i64 (s9.len : Int)] w4 fun e10 w11 => ∃ s12 : Sl, e10 = .returned (s12.val) ∧
 S5 w11 ∧
 Calls Try.prog fn_hollowaybook_SameSeens #[s7.val, s12.val] w11 fun e13 w14 => ∃ b15 : Bool, e13 = .returned (.bool b15) ∧
 brB (!b15)
 (K (.bool false) w14)
 (I1 (wr (i3 + (1 : Int))) w14 ∧ μ1 (wr (i3 + (1 : Int))) w14 < μ1 i3 w2))
 (K (.bool true) w2)
def hollowaybook_markedSeens_an : An := ⟨[(2, [(3, .int .i64)])], [(4, (11, .st 0 (.st 1 (.st 2 (.st 3 (.st 4 (.st 5 (.st 6 (.st 7 (.st 8 (.st 9 (.ef 10 .done)))))))))), 1))], []⟩
theorem hollowaybook_markedSeens_lift {l_1 : Sl} {w : World} {K : Value → World → Prop} (h : hollowaybook_markedSeens_sh l_1 w K) : Calls Try.prog fn_hollowaybook_markedSeens #[l_1.val] w fun e w' => ∃ v, e = .returned v ∧ K v w' :=
   lift_calls (A := hollowaybook_markedSeens_an) (c := bodyOf Try.f47) (args := [l_1.val]) orc orc_wide Try.func47 (by kernel_rfl) (by kernel_rfl) (Eq.mp (by kernel_rfl : hollowaybook_markedSeens_sh l_1 w K = wpc orc Try.f47.ntmps hollowaybook_markedSeens_an (bodyOf Try.f47) (argl 0 [l_1.val]) w (retQ orc Try.f47.results.toList K)) h)

-- holloway/hollowaybook.markedCodes
def hollowaybook_markedCodes_sh (l_1 : Sl) (w : World) (K : Value → World → Prop) : Prop :=
 ∃ (I1 : Int → World → Prop) (μ1 : Int → World → Nat), I1 (0 : Int) w ∧ ∀ (i3 : Int) (w2 : World), I1 i3 w2 →
 brB (decide (i3 < (l_1.len : Int)))
 (∀ w4 : World, w4 = World.drew w2 →
 ∃ S5 : World → Prop, S5 w4 ∧
 ∃ a6 : Addr, l_1.ptr = some a6 ∧ 0 ≤ i3 ∧ i3 < (l_1.len : Int) ∧
 ∃ s7 : Sl, held S5 (Addr.add a6 (Int.toNat i3 * 1)) (s7.val) ∧
 ∃ a8 : Addr, l_1.ptr = some a8 ∧ 0 ≤ i3 ∧ i3 < (l_1.len : Int) ∧
 ∃ s9 : Sl, held S5 (Addr.add a8 (Int.toNat i3 * 1)) (s9.val) ∧
 Calls Try.prog fn_hollowaybook_markCodes #[.int .i64 i3, .int .i64 (0 : Int), .int .i64 (s9.len : Int)] w4 fun e10 w11 => ∃ s12 : Sl, e10 = .returned (s12.val) ∧
 S5 w11 ∧
 Calls Try.prog fn_hollowaybook_SameCodes #[s7.val, s12.val] w11 fun e13 w14 => ∃ b15 : Bool, e13 = .returned (.bool b15) ∧
 brB (!b15)
 (K (.bool false) w14)
 (I1 (wr (i3 + (1 : Int))) w14 ∧ μ1 (wr (i3 + (1 : Int))) w14 < μ1 i3 w2))
 (K (.bool true) w2)
def hollowaybook_markedCodes_an : An := ⟨[(2, [(3, .int .i64)])], [(4, (11, .st 0 (.st 1 (.st 2 (.st 3 (.st 4 (.st 5 (.st 6 (.st 7 (.st 8 (.st 9 (.ef 10 .done)))))))))), 1))], []⟩
theorem hollowaybook_markedCodes_lift {l_1 : Sl} {w : World} {K : Value → World → Prop} (h : hollowaybook_markedCodes_sh l_1 w K) : Calls Try.prog fn_hollowaybook_markedCodes #[l_1.val] w fun e w' => ∃ v, e = .returned v ∧ K v w' :=
   lift_calls (A := hollowaybook_markedCodes_an) (c := bodyOf Try.f48) (args := [l_1.val]) orc orc_wide Try.func48 (by kernel_rfl) (by kernel_rfl) (Eq.mp (by kernel_rfl : hollowaybook_markedCodes_sh l_1 w K = wpc orc Try.f48.ntmps hollowaybook_markedCodes_an (bodyOf Try.f48) (argl 0 [l_1.val]) w (retQ orc Try.f48.results.toList K)) h)

-- holloway/hollowaybook.markedExits
def hollowaybook_markedExits_sh (l_1 : Sl) (w : World) (K : Value → World → Prop) : Prop :=
 ∃ (I1 : Int → World → Prop) (μ1 : Int → World → Nat), I1 (0 : Int) w ∧ ∀ (i3 : Int) (w2 : World), I1 i3 w2 →
 brB (decide (i3 < (l_1.len : Int)))
 (∀ w4 : World, w4 = World.drew w2 →
 ∃ S5 : World → Prop, S5 w4 ∧
 ∃ a6 : Addr, l_1.ptr = some a6 ∧ 0 ≤ i3 ∧ i3 < (l_1.len : Int) ∧
 ∃ s7 : Sl, held S5 (Addr.add a6 (Int.toNat i3 * 1)) (s7.val) ∧
 ∃ a8 : Addr, l_1.ptr = some a8 ∧ 0 ≤ i3 ∧ i3 < (l_1.len : Int) ∧
 ∃ s9 : Sl, held S5 (Addr.add a8 (Int.toNat i3 * 1)) (s9.val) ∧
 Calls Try.prog fn_hollowaybook_markExits #[.int .i64 i3, .int .i64 (0 : Int), .int .i64 (s9.len : Int)] w4 fun e10 w11 => ∃ s12 : Sl, e10 = .returned (s12.val) ∧
 S5 w11 ∧
 Calls Try.prog fn_hollowaybook_SameExits #[s7.val, s12.val] w11 fun e13 w14 => ∃ b15 : Bool, e13 = .returned (.bool b15) ∧
 brB (!b15)
 (K (.bool false) w14)
 (I1 (wr (i3 + (1 : Int))) w14 ∧ μ1 (wr (i3 + (1 : Int))) w14 < μ1 i3 w2))
 (K (.bool true) w2)
def hollowaybook_markedExits_an : An := ⟨[(2, [(3, .int .i64)])], [(4, (11, .st 0 (.st 1 (.st 2 (.st 3 (.st 4 (.st 5 (.st 6 (.st 7 (.st 8 (.st 9 (.ef 10 .done)))))))))), 1))], []⟩
theorem hollowaybook_markedExits_lift {l_1 : Sl} {w : World} {K : Value → World → Prop} (h : hollowaybook_markedExits_sh l_1 w K) : Calls Try.prog fn_hollowaybook_markedExits #[l_1.val] w fun e w' => ∃ v, e = .returned v ∧ K v w' :=
   lift_calls (A := hollowaybook_markedExits_an) (c := bodyOf Try.f49) (args := [l_1.val]) orc orc_wide Try.func49 (by kernel_rfl) (by kernel_rfl) (Eq.mp (by kernel_rfl : hollowaybook_markedExits_sh l_1 w K = wpc orc Try.f49.ntmps hollowaybook_markedExits_an (bodyOf Try.f49) (argl 0 [l_1.val]) w (retQ orc Try.f49.results.toList K)) h)

-- holloway/hollowaybook.SameTexts
def hollowaybook_SameTexts_sh (a_1 : Sl) (b_2 : Sl) (w : World) (K : Value → World → Prop) : Prop :=
 brB ((a_1.len : Int) != (b_2.len : Int))
 (K (.bool false) w)
 (∃ (I1 : Int → World → Prop) (μ1 : Int → World → Nat), I1 (0 : Int) w ∧ ∀ (i4 : Int) (w3 : World), I1 i4 w3 →
 brB (decide (i4 < (a_1.len : Int)))
 (∀ w5 : World, w5 = World.drew w3 →
 ∃ a6 : Addr, a_1.ptr = some a6 ∧ 0 ≤ i4 ∧ i4 < (a_1.len : Int) ∧
 ∃ t7 : ByteArray, held (Lw w5) (Addr.add a6 (Int.toNat i4 * 1)) (.string t7) ∧
 ∃ a8 : Addr, b_2.ptr = some a8 ∧ 0 ≤ i4 ∧ i4 < (b_2.len : Int) ∧
 ∃ t9 : ByteArray, held (Lw w5) (Addr.add a8 (Int.toNat i4 * 1)) (.string t9) ∧
 brB (!(t7.toList == t9.toList))
 (K (.bool false) w5)
 (I1 (wr (i4 + (1 : Int))) w5 ∧ μ1 (wr (i4 + (1 : Int))) w5 < μ1 i4 w3))
 (K (.bool true) w3))
def hollowaybook_SameTexts_an : An := ⟨[(4, [(5, .int .i64)])], [(6, (10, .st 0 (.st 1 (.st 2 (.st 3 (.st 4 (.st 5 (.st 6 (.st 7 (.st 8 (.st 9 .done))))))))), 0))], []⟩
theorem hollowaybook_SameTexts_lift {a_1 : Sl} {b_2 : Sl} {w : World} {K : Value → World → Prop} (h : hollowaybook_SameTexts_sh a_1 b_2 w K) : Calls Try.prog fn_hollowaybook_SameTexts #[a_1.val, b_2.val] w fun e w' => ∃ v, e = .returned v ∧ K v w' :=
   lift_calls (A := hollowaybook_SameTexts_an) (c := bodyOf Try.f57) (args := [a_1.val, b_2.val]) orc orc_wide Try.func57 (by kernel_rfl) (by kernel_rfl) (Eq.mp (by kernel_rfl : hollowaybook_SameTexts_sh a_1 b_2 w K = wpc orc Try.f57.ntmps hollowaybook_SameTexts_an (bodyOf Try.f57) (argl 0 [a_1.val, b_2.val]) w (retQ orc Try.f57.results.toList K)) h)

-- holloway/hollowaybook.SameWords
def hollowaybook_SameWords_sh (a_1 : Sl) (b_2 : Sl) (w : World) (K : Value → World → Prop) : Prop :=
 brB ((a_1.len : Int) != (b_2.len : Int))
 (K (.bool false) w)
 (∃ (I1 : Int → World → Prop) (μ1 : Int → World → Nat), I1 (0 : Int) w ∧ ∀ (i4 : Int) (w3 : World), I1 i4 w3 →
 brB (decide (i4 < (a_1.len : Int)))
 (∀ w5 : World, w5 = World.drew w3 →
 ∃ a6 : Addr, a_1.ptr = some a6 ∧ 0 ≤ i4 ∧ i4 < (a_1.len : Int) ∧
 ∃ t_Name7 : ByteArray, ∃ n_Xt8 : Int, ∃ n_Op9 : Int, ∃ b_Immediate10 : Bool, held (Lw w5) (Addr.add a6 (Int.toNat i4 * 4)) (.string t_Name7) ∧ held (Lw w5) (Addr.add (Addr.add a6 (Int.toNat i4 * 4)) 1) (.int .i64 n_Xt8) ∧ held (Lw w5) (Addr.add (Addr.add a6 (Int.toNat i4 * 4)) 2) (.int .i64 n_Op9) ∧ held (Lw w5) (Addr.add (Addr.add a6 (Int.toNat i4 * 4)) 3) (.bool b_Immediate10) ∧
 ∃ a11 : Addr, b_2.ptr = some a11 ∧ 0 ≤ i4 ∧ i4 < (b_2.len : Int) ∧
 ∃ t_Name12 : ByteArray, ∃ n_Xt13 : Int, ∃ n_Op14 : Int, ∃ b_Immediate15 : Bool, held (Lw w5) (Addr.add a11 (Int.toNat i4 * 4)) (.string t_Name12) ∧ held (Lw w5) (Addr.add (Addr.add a11 (Int.toNat i4 * 4)) 1) (.int .i64 n_Xt13) ∧ held (Lw w5) (Addr.add (Addr.add a11 (Int.toNat i4 * 4)) 2) (.int .i64 n_Op14) ∧ held (Lw w5) (Addr.add (Addr.add a11 (Int.toNat i4 * 4)) 3) (.bool b_Immediate15) ∧
 ∃ b16 : Bool, ∃ w17 : World, ((do eqGuard .eql T_api_Word (.tmp 20) (.tmp 24) (.agg #[.string t_Name7, .int .i64 n_Xt8, .int .i64 n_Op9, .bool b_Immediate10]) (.agg #[.string t_Name12, .int .i64 n_Xt13, .int .i64 n_Op14, .bool b_Immediate15]); binOp .eql T_api_Word (.agg #[.string t_Name7, .int .i64 n_Xt8, .int .i64 n_Op9, .bool b_Immediate10]) (.agg #[.string t_Name12, .int .i64 n_Xt13, .int .i64 n_Op14, .bool b_Immediate15]) : Sem Value)).run Try.prog w5 = .ok (.bool b16) w17 ∧
 brB (!b16)
 (K (.bool false) w17)
 (I1 (wr (i4 + (1 : Int))) w17 ∧ μ1 (wr (i4 + (1 : Int))) w17 < μ1 i4 w3))
 (K (.bool true) w3))
def hollowaybook_SameWords_an : An := ⟨[(4, [(5, .int .i64)])], [(6, (8, .st 0 (.st 1 (.st 2 (.st 3 (.st 4 (.st 5 (.st 6 (.st 7 .done))))))), 0))], []⟩
theorem hollowaybook_SameWords_lift {a_1 : Sl} {b_2 : Sl} {w : World} {K : Value → World → Prop} (h : hollowaybook_SameWords_sh a_1 b_2 w K) : Calls Try.prog fn_hollowaybook_SameWords #[a_1.val, b_2.val] w fun e w' => ∃ v, e = .returned v ∧ K v w' :=
   lift_calls (A := hollowaybook_SameWords_an) (c := bodyOf Try.f58) (args := [a_1.val, b_2.val]) orc orc_wide Try.func58 (by kernel_rfl) (by kernel_rfl) (Eq.mp (by kernel_rfl : hollowaybook_SameWords_sh a_1 b_2 w K = wpc orc Try.f58.ntmps hollowaybook_SameWords_an (bodyOf Try.f58) (argl 0 [a_1.val, b_2.val]) w (retQ orc Try.f58.results.toList K)) h)

-- holloway/hollowaybook.SameSeens
def hollowaybook_SameSeens_sh (a_1 : Sl) (b_2 : Sl) (w : World) (K : Value → World → Prop) : Prop :=
 brB ((a_1.len : Int) != (b_2.len : Int))
 (K (.bool false) w)
 (∃ (I1 : Int → World → Prop) (μ1 : Int → World → Nat), I1 (0 : Int) w ∧ ∀ (i4 : Int) (w3 : World), I1 i4 w3 →
 brB (decide (i4 < (a_1.len : Int)))
 (∀ w5 : World, w5 = World.drew w3 →
 ∃ a6 : Addr, a_1.ptr = some a6 ∧ 0 ≤ i4 ∧ i4 < (a_1.len : Int) ∧
 ∃ n_Ip7 : Int, ∃ n_Cell8 : Int, ∃ n_Arg9 : Int, ∃ n_Next10 : Int, held (Lw w5) (Addr.add a6 (Int.toNat i4 * 4)) (.int .i64 n_Ip7) ∧ held (Lw w5) (Addr.add (Addr.add a6 (Int.toNat i4 * 4)) 1) (.int .i64 n_Cell8) ∧ held (Lw w5) (Addr.add (Addr.add a6 (Int.toNat i4 * 4)) 2) (.int .i64 n_Arg9) ∧ held (Lw w5) (Addr.add (Addr.add a6 (Int.toNat i4 * 4)) 3) (.int .i64 n_Next10) ∧
 ∃ a11 : Addr, b_2.ptr = some a11 ∧ 0 ≤ i4 ∧ i4 < (b_2.len : Int) ∧
 ∃ n_Ip12 : Int, ∃ n_Cell13 : Int, ∃ n_Arg14 : Int, ∃ n_Next15 : Int, held (Lw w5) (Addr.add a11 (Int.toNat i4 * 4)) (.int .i64 n_Ip12) ∧ held (Lw w5) (Addr.add (Addr.add a11 (Int.toNat i4 * 4)) 1) (.int .i64 n_Cell13) ∧ held (Lw w5) (Addr.add (Addr.add a11 (Int.toNat i4 * 4)) 2) (.int .i64 n_Arg14) ∧ held (Lw w5) (Addr.add (Addr.add a11 (Int.toNat i4 * 4)) 3) (.int .i64 n_Next15) ∧
 ∃ b16 : Bool, ∃ w17 : World, ((do eqGuard .eql T_api_Seen (.tmp 20) (.tmp 24) (.agg #[.int .i64 n_Ip7, .int .i64 n_Cell8, .int .i64 n_Arg9, .int .i64 n_Next10]) (.agg #[.int .i64 n_Ip12, .int .i64 n_Cell13, .int .i64 n_Arg14, .int .i64 n_Next15]); binOp .eql T_api_Seen (.agg #[.int .i64 n_Ip7, .int .i64 n_Cell8, .int .i64 n_Arg9, .int .i64 n_Next10]) (.agg #[.int .i64 n_Ip12, .int .i64 n_Cell13, .int .i64 n_Arg14, .int .i64 n_Next15]) : Sem Value)).run Try.prog w5 = .ok (.bool b16) w17 ∧
 brB (!b16)
 (K (.bool false) w17)
 (I1 (wr (i4 + (1 : Int))) w17 ∧ μ1 (wr (i4 + (1 : Int))) w17 < μ1 i4 w3))
 (K (.bool true) w3))
def hollowaybook_SameSeens_an : An := ⟨[(4, [(5, .int .i64)])], [(6, (8, .st 0 (.st 1 (.st 2 (.st 3 (.st 4 (.st 5 (.st 6 (.st 7 .done))))))), 0))], []⟩
theorem hollowaybook_SameSeens_lift {a_1 : Sl} {b_2 : Sl} {w : World} {K : Value → World → Prop} (h : hollowaybook_SameSeens_sh a_1 b_2 w K) : Calls Try.prog fn_hollowaybook_SameSeens #[a_1.val, b_2.val] w fun e w' => ∃ v, e = .returned v ∧ K v w' :=
   lift_calls (A := hollowaybook_SameSeens_an) (c := bodyOf Try.f59) (args := [a_1.val, b_2.val]) orc orc_wide Try.func59 (by kernel_rfl) (by kernel_rfl) (Eq.mp (by kernel_rfl : hollowaybook_SameSeens_sh a_1 b_2 w K = wpc orc Try.f59.ntmps hollowaybook_SameSeens_an (bodyOf Try.f59) (argl 0 [a_1.val, b_2.val]) w (retQ orc Try.f59.results.toList K)) h)

-- holloway/hollowaybook.SameCodes
def hollowaybook_SameCodes_sh (a_1 : Sl) (b_2 : Sl) (w : World) (K : Value → World → Prop) : Prop :=
 brB ((a_1.len : Int) != (b_2.len : Int))
 (K (.bool false) w)
 (∃ (I1 : Int → World → Prop) (μ1 : Int → World → Nat), I1 (0 : Int) w ∧ ∀ (i4 : Int) (w3 : World), I1 i4 w3 →
 brB (decide (i4 < (a_1.len : Int)))
 (∀ w5 : World, w5 = World.drew w3 →
 ∃ a6 : Addr, a_1.ptr = some a6 ∧ 0 ≤ i4 ∧ i4 < (a_1.len : Int) ∧
 ∃ n_Op7 : Int, ∃ n_A8 : Int, ∃ n_B9 : Int, ∃ n_C10 : Int, ∃ n_X11 : Int, held (Lw w5) (Addr.add a6 (Int.toNat i4 * 5)) (.int .i64 n_Op7) ∧ held (Lw w5) (Addr.add (Addr.add a6 (Int.toNat i4 * 5)) 1) (.int .i64 n_A8) ∧ held (Lw w5) (Addr.add (Addr.add a6 (Int.toNat i4 * 5)) 2) (.int .i64 n_B9) ∧ held (Lw w5) (Addr.add (Addr.add a6 (Int.toNat i4 * 5)) 3) (.int .i64 n_C10) ∧ held (Lw w5) (Addr.add (Addr.add a6 (Int.toNat i4 * 5)) 4) (.int .i64 n_X11) ∧
 ∃ a12 : Addr, b_2.ptr = some a12 ∧ 0 ≤ i4 ∧ i4 < (b_2.len : Int) ∧
 ∃ n_Op13 : Int, ∃ n_A14 : Int, ∃ n_B15 : Int, ∃ n_C16 : Int, ∃ n_X17 : Int, held (Lw w5) (Addr.add a12 (Int.toNat i4 * 5)) (.int .i64 n_Op13) ∧ held (Lw w5) (Addr.add (Addr.add a12 (Int.toNat i4 * 5)) 1) (.int .i64 n_A14) ∧ held (Lw w5) (Addr.add (Addr.add a12 (Int.toNat i4 * 5)) 2) (.int .i64 n_B15) ∧ held (Lw w5) (Addr.add (Addr.add a12 (Int.toNat i4 * 5)) 3) (.int .i64 n_C16) ∧ held (Lw w5) (Addr.add (Addr.add a12 (Int.toNat i4 * 5)) 4) (.int .i64 n_X17) ∧
 ∃ b18 : Bool, ∃ w19 : World, ((do eqGuard .eql T_api_Ins (.tmp 20) (.tmp 24) (.agg #[.int .i64 n_Op7, .int .i64 n_A8, .int .i64 n_B9, .int .i64 n_C10, .int .i64 n_X11]) (.agg #[.int .i64 n_Op13, .int .i64 n_A14, .int .i64 n_B15, .int .i64 n_C16, .int .i64 n_X17]); binOp .eql T_api_Ins (.agg #[.int .i64 n_Op7, .int .i64 n_A8, .int .i64 n_B9, .int .i64 n_C10, .int .i64 n_X11]) (.agg #[.int .i64 n_Op13, .int .i64 n_A14, .int .i64 n_B15, .int .i64 n_C16, .int .i64 n_X17]) : Sem Value)).run Try.prog w5 = .ok (.bool b18) w19 ∧
 brB (!b18)
 (K (.bool false) w19)
 (I1 (wr (i4 + (1 : Int))) w19 ∧ μ1 (wr (i4 + (1 : Int))) w19 < μ1 i4 w3))
 (K (.bool true) w3))
def hollowaybook_SameCodes_an : An := ⟨[(4, [(5, .int .i64)])], [(6, (8, .st 0 (.st 1 (.st 2 (.st 3 (.st 4 (.st 5 (.st 6 (.st 7 .done))))))), 0))], []⟩
theorem hollowaybook_SameCodes_lift {a_1 : Sl} {b_2 : Sl} {w : World} {K : Value → World → Prop} (h : hollowaybook_SameCodes_sh a_1 b_2 w K) : Calls Try.prog fn_hollowaybook_SameCodes #[a_1.val, b_2.val] w fun e w' => ∃ v, e = .returned v ∧ K v w' :=
   lift_calls (A := hollowaybook_SameCodes_an) (c := bodyOf Try.f60) (args := [a_1.val, b_2.val]) orc orc_wide Try.func60 (by kernel_rfl) (by kernel_rfl) (Eq.mp (by kernel_rfl : hollowaybook_SameCodes_sh a_1 b_2 w K = wpc orc Try.f60.ntmps hollowaybook_SameCodes_an (bodyOf Try.f60) (argl 0 [a_1.val, b_2.val]) w (retQ orc Try.f60.results.toList K)) h)

-- holloway/hollowaybook.SameExits
def hollowaybook_SameExits_sh (a_1 : Sl) (b_2 : Sl) (w : World) (K : Value → World → Prop) : Prop :=
 brB ((a_1.len : Int) != (b_2.len : Int))
 (K (.bool false) w)
 (∃ (I1 : Int → World → Prop) (μ1 : Int → World → Nat), I1 (0 : Int) w ∧ ∀ (i4 : Int) (w3 : World), I1 i4 w3 →
 brB (decide (i4 < (a_1.len : Int)))
 (∃ J10 : Bool → World → Prop, (∀ (b30 : Bool) (w29 : World), J10 b30 w29 →
 brB b30
 (K (.bool false) w29)
 (I1 (wr (i4 + (1 : Int))) w29 ∧ μ1 (wr (i4 + (1 : Int))) w29 < μ1 i4 w3)) ∧
 ∀ w5 : World, w5 = World.drew w3 →
 ∃ S6 : World → Prop, S6 w5 ∧
 ∃ a7 : Addr, a_1.ptr = some a7 ∧ 0 ≤ i4 ∧ i4 < (a_1.len : Int) ∧
 ∃ n8 : Int, held S6 (Addr.add a7 (Int.toNat i4 * 4)) (.int .i64 n8) ∧
 ∃ a9 : Addr, b_2.ptr = some a9 ∧ 0 ≤ i4 ∧ i4 < (b_2.len : Int) ∧
 ∃ n10 : Int, held S6 (Addr.add a9 (Int.toNat i4 * 4)) (.int .i64 n10) ∧
 brB (n8 == n10)
 (∃ a11 : Addr, a_1.ptr = some a11 ∧ 0 ≤ i4 ∧ i4 < (a_1.len : Int) ∧
 ∃ n12 : Int, held S6 (Addr.add (Addr.add a11 (Int.toNat i4 * 4)) 1) (.int .i64 n12) ∧
 ∃ a13 : Addr, b_2.ptr = some a13 ∧ 0 ≤ i4 ∧ i4 < (b_2.len : Int) ∧
 ∃ n14 : Int, held S6 (Addr.add (Addr.add a13 (Int.toNat i4 * 4)) 1) (.int .i64 n14) ∧
 brB (n12 == n14)
 (∃ a15 : Addr, a_1.ptr = some a15 ∧ 0 ≤ i4 ∧ i4 < (a_1.len : Int) ∧
 ∃ s16 : Sl, held S6 (Addr.add (Addr.add a15 (Int.toNat i4 * 4)) 2) (s16.val) ∧
 ∃ a17 : Addr, b_2.ptr = some a17 ∧ 0 ≤ i4 ∧ i4 < (b_2.len : Int) ∧
 ∃ s18 : Sl, held S6 (Addr.add (Addr.add a17 (Int.toNat i4 * 4)) 2) (s18.val) ∧
 Calls Try.prog fn_hollowaybook_SameInts #[s16.val, s18.val] w5 fun e19 w20 => ∃ b21 : Bool, e19 = .returned (.bool b21) ∧
 S6 w20 ∧
 brB b21
 (∃ a22 : Addr, a_1.ptr = some a22 ∧ 0 ≤ i4 ∧ i4 < (a_1.len : Int) ∧
 ∃ s23 : Sl, held S6 (Addr.add (Addr.add a22 (Int.toNat i4 * 4)) 3) (s23.val) ∧
 ∃ a24 : Addr, b_2.ptr = some a24 ∧ 0 ≤ i4 ∧ i4 < (b_2.len : Int) ∧
 ∃ s25 : Sl, held S6 (Addr.add (Addr.add a24 (Int.toNat i4 * 4)) 3) (s25.val) ∧
 Calls Try.prog fn_hollowaybook_SameInts #[s23.val, s25.val] w20 fun e26 w27 => ∃ b28 : Bool, e26 = .returned (.bool b28) ∧
 J10 (!b28) w27)
 (J10 true w20))
 (J10 true w5))
 (J10 true w5))
 (K (.bool true) w3))
def hollowaybook_SameExits_an : An := ⟨[(4, [(5, .int .i64)])], [(6, (48, .st 0 (.st 1 (.st 2 (.st 3 (.st 4 (.st 5 (.st 6 (.st 7 (.st 8 (.st 9 (.st 10 (.st 11 (.st 12 (.st 13 (.st 14 (.st 15 (.st 16 (.st 17 (.st 18 (.st 19 (.st 20 (.st 21 (.st 22 (.st 23 (.st 24 (.st 25 (.st 26 (.st 27 (.st 28 (.st 29 (.st 30 (.st 31 (.st 32 (.st 33 (.st 34 (.ef 35 (.st 36 (.st 37 (.st 38 (.st 39 (.st 40 (.st 41 (.st 42 (.st 43 (.st 44 (.st 45 (.st 46 (.st 47 .done))))))))))))))))))))))))))))))))))))))))))))))), 1))], [(7, [(67, .bool)])]⟩
theorem hollowaybook_SameExits_lift {a_1 : Sl} {b_2 : Sl} {w : World} {K : Value → World → Prop} (h : hollowaybook_SameExits_sh a_1 b_2 w K) : Calls Try.prog fn_hollowaybook_SameExits #[a_1.val, b_2.val] w fun e w' => ∃ v, e = .returned v ∧ K v w' :=
   lift_calls (A := hollowaybook_SameExits_an) (c := bodyOf Try.f61) (args := [a_1.val, b_2.val]) orc orc_wide Try.func61 (by kernel_rfl) (by kernel_rfl) (Eq.mp (by kernel_rfl : hollowaybook_SameExits_sh a_1 b_2 w K = wpc orc Try.f61.ntmps hollowaybook_SameExits_an (bodyOf Try.f61) (argl 0 [a_1.val, b_2.val]) w (retQ orc Try.f61.results.toList K)) h)

-- holloway/hollowaybook.markExits
def hollowaybook_markExits_sh (i_1 : Int) (from_2 : Int) (n_3 : Int) (w : World) (K : Value → World → Prop) : Prop :=
 ∃ (I1 : Sl → Int → World → Prop) (μ1 : Sl → Int → World → Nat), I1 (⟨none, 0, 0⟩ : Sl) from_2 w ∧ ∀ (out6 : Sl) (k5 : Int) (w4 : World), I1 out6 k5 w4 →
 brB (decide (k5 < (wr (from_2 + n_3))))
 (∀ (b7 : Nat) (w8 : World), b7 = w4.heap.size → w8 = World.alloc w4 (.cells #[.int .i64 (wr ((wr ((wr ((-1000 : Int) * i_1)) - k5)) - (1 : Int))), .int .i64 (0 : Int), .slice none 0 0, .slice none 0 0] T_api_Out) →
 ∃ s9 : Sl, ∃ w10 : World, (Builtin.append_ #[T_sl_api_Out, T_sl_api_Out] T_sl_api_Out #[out6.val, .slice (some ⟨b7, 0, none⟩) 1 1]).run Try.prog w8 = .ok (s9.val) w10 ∧
 I1 s9 (wr (k5 + (1 : Int))) w10 ∧ μ1 s9 (wr (k5 + (1 : Int))) w10 < μ1 out6 k5 w4)
 (K (out6.val) w4)
def hollowaybook_markExits_an : An := ⟨[(3, [(7, .sl), (8, .int .i64)])], [], []⟩
theorem hollowaybook_markExits_lift {i_1 : Int} {from_2 : Int} {n_3 : Int} {w : World} {K : Value → World → Prop} (h : hollowaybook_markExits_sh i_1 from_2 n_3 w K) : Calls Try.prog fn_hollowaybook_markExits #[.int .i64 i_1, .int .i64 from_2, .int .i64 n_3] w fun e w' => ∃ v, e = .returned v ∧ K v w' :=
   lift_calls (A := hollowaybook_markExits_an) (c := bodyOf Try.f62) (args := [.int .i64 i_1, .int .i64 from_2, .int .i64 n_3]) orc orc_wide Try.func62 (by kernel_rfl) (by kernel_rfl) (Eq.mp (by kernel_rfl : hollowaybook_markExits_sh i_1 from_2 n_3 w K = wpc orc Try.f62.ntmps hollowaybook_markExits_an (bodyOf Try.f62) (argl 0 [.int .i64 i_1, .int .i64 from_2, .int .i64 n_3]) w (retQ orc Try.f62.results.toList K)) h)

-- holloway/hollowaybook.markTexts
def hollowaybook_markTexts_sh (i_1 : Int) (from_2 : Int) (n_3 : Int) (w : World) (K : Value → World → Prop) : Prop :=
 ∃ (I1 : Sl → Int → World → Prop) (μ1 : Sl → Int → World → Nat), I1 (⟨none, 0, 0⟩ : Sl) from_2 w ∧ ∀ (out6 : Sl) (k5 : Int) (w4 : World), I1 out6 k5 w4 →
 brB (decide (k5 < (wr (from_2 + n_3))))
 (Calls Try.prog fn_hollowaybook_name #[.int .i64 i_1, .int .i64 k5] w4 fun e7 w8 => ∃ t9 : ByteArray, e7 = .returned (.string t9) ∧
 ∀ (b10 : Nat) (w11 : World), b10 = w8.heap.size → w11 = World.alloc w8 (.cells #[.string t9] T_string) →
 ∃ s12 : Sl, ∃ w13 : World, (Builtin.append_ #[T_sl_string, T_sl_string] T_sl_string #[out6.val, .slice (some ⟨b10, 0, none⟩) 1 1]).run Try.prog w11 = .ok (s12.val) w13 ∧
 I1 s12 (wr (k5 + (1 : Int))) w13 ∧ μ1 s12 (wr (k5 + (1 : Int))) w13 < μ1 out6 k5 w4)
 (K (out6.val) w4)
def hollowaybook_markTexts_an : An := ⟨[(3, [(7, .sl), (8, .int .i64)])], [], []⟩
theorem hollowaybook_markTexts_lift {i_1 : Int} {from_2 : Int} {n_3 : Int} {w : World} {K : Value → World → Prop} (h : hollowaybook_markTexts_sh i_1 from_2 n_3 w K) : Calls Try.prog fn_hollowaybook_markTexts #[.int .i64 i_1, .int .i64 from_2, .int .i64 n_3] w fun e w' => ∃ v, e = .returned v ∧ K v w' :=
   lift_calls (A := hollowaybook_markTexts_an) (c := bodyOf Try.f63) (args := [.int .i64 i_1, .int .i64 from_2, .int .i64 n_3]) orc orc_wide Try.func63 (by kernel_rfl) (by kernel_rfl) (Eq.mp (by kernel_rfl : hollowaybook_markTexts_sh i_1 from_2 n_3 w K = wpc orc Try.f63.ntmps hollowaybook_markTexts_an (bodyOf Try.f63) (argl 0 [.int .i64 i_1, .int .i64 from_2, .int .i64 n_3]) w (retQ orc Try.f63.results.toList K)) h)

-- holloway/hollowaybook.markInts
def hollowaybook_markInts_sh (i_1 : Int) (from_2 : Int) (n_3 : Int) (w : World) (K : Value → World → Prop) : Prop :=
 ∃ (I1 : Sl → Int → World → Prop) (μ1 : Sl → Int → World → Nat), I1 (⟨none, 0, 0⟩ : Sl) from_2 w ∧ ∀ (out6 : Sl) (k5 : Int) (w4 : World), I1 out6 k5 w4 →
 brB (decide (k5 < (wr (from_2 + n_3))))
 (∀ (b7 : Nat) (w8 : World), b7 = w4.heap.size → w8 = World.alloc w4 (.cells #[.int .i64 (wr ((wr ((wr ((-1000000 : Int) * i_1)) - k5)) - (7 : Int)))] T_int) →
 ∃ s9 : Sl, ∃ w10 : World, (Builtin.append_ #[T_sl_int, T_sl_int] T_sl_int #[out6.val, .slice (some ⟨b7, 0, none⟩) 1 1]).run Try.prog w8 = .ok (s9.val) w10 ∧
 I1 s9 (wr (k5 + (1 : Int))) w10 ∧ μ1 s9 (wr (k5 + (1 : Int))) w10 < μ1 out6 k5 w4)
 (K (out6.val) w4)
def hollowaybook_markInts_an : An := ⟨[(3, [(7, .sl), (8, .int .i64)])], [], []⟩
theorem hollowaybook_markInts_lift {i_1 : Int} {from_2 : Int} {n_3 : Int} {w : World} {K : Value → World → Prop} (h : hollowaybook_markInts_sh i_1 from_2 n_3 w K) : Calls Try.prog fn_hollowaybook_markInts #[.int .i64 i_1, .int .i64 from_2, .int .i64 n_3] w fun e w' => ∃ v, e = .returned v ∧ K v w' :=
   lift_calls (A := hollowaybook_markInts_an) (c := bodyOf Try.f64) (args := [.int .i64 i_1, .int .i64 from_2, .int .i64 n_3]) orc orc_wide Try.func64 (by kernel_rfl) (by kernel_rfl) (Eq.mp (by kernel_rfl : hollowaybook_markInts_sh i_1 from_2 n_3 w K = wpc orc Try.f64.ntmps hollowaybook_markInts_an (bodyOf Try.f64) (argl 0 [.int .i64 i_1, .int .i64 from_2, .int .i64 n_3]) w (retQ orc Try.f64.results.toList K)) h)

-- holloway/hollowaybook.markWords
def hollowaybook_markWords_sh (i_1 : Int) (from_2 : Int) (n_3 : Int) (w : World) (K : Value → World → Prop) : Prop :=
 ∃ (I1 : Sl → Int → World → Prop) (μ1 : Sl → Int → World → Nat), I1 (⟨none, 0, 0⟩ : Sl) from_2 w ∧ ∀ (out6 : Sl) (k5 : Int) (w4 : World), I1 out6 k5 w4 →
 brB (decide (k5 < (wr (from_2 + n_3))))
 (∀ (b7 : Nat) (w8 : World), b7 = w4.heap.size → w8 = World.alloc w4 (.cells #[.string (bs []), .int .i64 (wr ((wr ((wr ((-1000 : Int) * i_1)) - k5)) - (1 : Int))), .int .i64 (0 : Int), .bool false] T_api_Word) →
 ∃ s9 : Sl, ∃ w10 : World, (Builtin.append_ #[T_sl_api_Word, T_sl_api_Word] T_sl_api_Word #[out6.val, .slice (some ⟨b7, 0, none⟩) 1 1]).run Try.prog w8 = .ok (s9.val) w10 ∧
 I1 s9 (wr (k5 + (1 : Int))) w10 ∧ μ1 s9 (wr (k5 + (1 : Int))) w10 < μ1 out6 k5 w4)
 (K (out6.val) w4)
def hollowaybook_markWords_an : An := ⟨[(3, [(7, .sl), (8, .int .i64)])], [], []⟩
theorem hollowaybook_markWords_lift {i_1 : Int} {from_2 : Int} {n_3 : Int} {w : World} {K : Value → World → Prop} (h : hollowaybook_markWords_sh i_1 from_2 n_3 w K) : Calls Try.prog fn_hollowaybook_markWords #[.int .i64 i_1, .int .i64 from_2, .int .i64 n_3] w fun e w' => ∃ v, e = .returned v ∧ K v w' :=
   lift_calls (A := hollowaybook_markWords_an) (c := bodyOf Try.f65) (args := [.int .i64 i_1, .int .i64 from_2, .int .i64 n_3]) orc orc_wide Try.func65 (by kernel_rfl) (by kernel_rfl) (Eq.mp (by kernel_rfl : hollowaybook_markWords_sh i_1 from_2 n_3 w K = wpc orc Try.f65.ntmps hollowaybook_markWords_an (bodyOf Try.f65) (argl 0 [.int .i64 i_1, .int .i64 from_2, .int .i64 n_3]) w (retQ orc Try.f65.results.toList K)) h)

-- holloway/hollowaybook.markSeens
def hollowaybook_markSeens_sh (i_1 : Int) (from_2 : Int) (n_3 : Int) (w : World) (K : Value → World → Prop) : Prop :=
 ∃ (I1 : Sl → Int → World → Prop) (μ1 : Sl → Int → World → Nat), I1 (⟨none, 0, 0⟩ : Sl) from_2 w ∧ ∀ (out6 : Sl) (k5 : Int) (w4 : World), I1 out6 k5 w4 →
 brB (decide (k5 < (wr (from_2 + n_3))))
 (∀ (b7 : Nat) (w8 : World), b7 = w4.heap.size → w8 = World.alloc w4 (.cells #[.int .i64 (wr ((wr ((wr ((-1000 : Int) * i_1)) - k5)) - (1 : Int))), .int .i64 (0 : Int), .int .i64 (0 : Int), .int .i64 (0 : Int)] T_api_Seen) →
 ∃ s9 : Sl, ∃ w10 : World, (Builtin.append_ #[T_sl_api_Seen, T_sl_api_Seen] T_sl_api_Seen #[out6.val, .slice (some ⟨b7, 0, none⟩) 1 1]).run Try.prog w8 = .ok (s9.val) w10 ∧
 I1 s9 (wr (k5 + (1 : Int))) w10 ∧ μ1 s9 (wr (k5 + (1 : Int))) w10 < μ1 out6 k5 w4)
 (K (out6.val) w4)
def hollowaybook_markSeens_an : An := ⟨[(3, [(7, .sl), (8, .int .i64)])], [], []⟩
theorem hollowaybook_markSeens_lift {i_1 : Int} {from_2 : Int} {n_3 : Int} {w : World} {K : Value → World → Prop} (h : hollowaybook_markSeens_sh i_1 from_2 n_3 w K) : Calls Try.prog fn_hollowaybook_markSeens #[.int .i64 i_1, .int .i64 from_2, .int .i64 n_3] w fun e w' => ∃ v, e = .returned v ∧ K v w' :=
   lift_calls (A := hollowaybook_markSeens_an) (c := bodyOf Try.f66) (args := [.int .i64 i_1, .int .i64 from_2, .int .i64 n_3]) orc orc_wide Try.func66 (by kernel_rfl) (by kernel_rfl) (Eq.mp (by kernel_rfl : hollowaybook_markSeens_sh i_1 from_2 n_3 w K = wpc orc Try.f66.ntmps hollowaybook_markSeens_an (bodyOf Try.f66) (argl 0 [.int .i64 i_1, .int .i64 from_2, .int .i64 n_3]) w (retQ orc Try.f66.results.toList K)) h)

-- holloway/hollowaybook.markCodes
def hollowaybook_markCodes_sh (i_1 : Int) (from_2 : Int) (n_3 : Int) (w : World) (K : Value → World → Prop) : Prop :=
 ∃ (I1 : Sl → Int → World → Prop) (μ1 : Sl → Int → World → Nat), I1 (⟨none, 0, 0⟩ : Sl) from_2 w ∧ ∀ (out6 : Sl) (k5 : Int) (w4 : World), I1 out6 k5 w4 →
 brB (decide (k5 < (wr (from_2 + n_3))))
 (∀ (b7 : Nat) (w8 : World), b7 = w4.heap.size → w8 = World.alloc w4 (.cells #[.int .i64 (wr ((wr ((wr ((-1000 : Int) * i_1)) - k5)) - (1 : Int))), .int .i64 (0 : Int), .int .i64 (0 : Int), .int .i64 (0 : Int), .int .i64 (0 : Int)] T_api_Ins) →
 ∃ s9 : Sl, ∃ w10 : World, (Builtin.append_ #[T_sl_api_Ins, T_sl_api_Ins] T_sl_api_Ins #[out6.val, .slice (some ⟨b7, 0, none⟩) 1 1]).run Try.prog w8 = .ok (s9.val) w10 ∧
 I1 s9 (wr (k5 + (1 : Int))) w10 ∧ μ1 s9 (wr (k5 + (1 : Int))) w10 < μ1 out6 k5 w4)
 (K (out6.val) w4)
def hollowaybook_markCodes_an : An := ⟨[(3, [(7, .sl), (8, .int .i64)])], [], []⟩
theorem hollowaybook_markCodes_lift {i_1 : Int} {from_2 : Int} {n_3 : Int} {w : World} {K : Value → World → Prop} (h : hollowaybook_markCodes_sh i_1 from_2 n_3 w K) : Calls Try.prog fn_hollowaybook_markCodes #[.int .i64 i_1, .int .i64 from_2, .int .i64 n_3] w fun e w' => ∃ v, e = .returned v ∧ K v w' :=
   lift_calls (A := hollowaybook_markCodes_an) (c := bodyOf Try.f67) (args := [.int .i64 i_1, .int .i64 from_2, .int .i64 n_3]) orc orc_wide Try.func67 (by kernel_rfl) (by kernel_rfl) (Eq.mp (by kernel_rfl : hollowaybook_markCodes_sh i_1 from_2 n_3 w K = wpc orc Try.f67.ntmps hollowaybook_markCodes_an (bodyOf Try.f67) (argl 0 [.int .i64 i_1, .int .i64 from_2, .int .i64 n_3]) w (retQ orc Try.f67.results.toList K)) h)

-- holloway/hollowaybook.name
def hollowaybook_name_sh (i_1 : Int) (k_2 : Int) (w : World) (K : Value → World → Prop) : Prop :=
 (26 : Int) ≠ 0 ∧ (26 : Int) ≠ 0 ∧ (26 : Int) ≠ 0 ∧ (10 : Int) ≠ 0 ∧ (10 : Int) ≠ 0 ∧ (10 : Int) ≠ 0 ∧ (100 : Int) ≠ 0 ∧ (10 : Int) ≠ 0 ∧ ∀ (b3 : Nat) (w4 : World), b3 = w.heap.size → w4 = World.alloc w (.cells #[.int .u8 (109 : Int), .int .u8 (IntKind.wrap .u8 (wr ((65 : Int) + (Int.tmod i_1 (26 : Int))))), .int .u8 (IntKind.wrap .u8 (wr ((65 : Int) + (Int.tmod (wr (Int.tdiv i_1 (26 : Int))) (26 : Int))))), .int .u8 (IntKind.wrap .u8 (wr ((48 : Int) + (Int.tmod k_2 (10 : Int))))), .int .u8 (IntKind.wrap .u8 (wr ((48 : Int) + (Int.tmod (wr (Int.tdiv k_2 (10 : Int))) (10 : Int))))), .int .u8 (IntKind.wrap .u8 (wr ((48 : Int) + (Int.tmod (wr (Int.tdiv k_2 (100 : Int))) (10 : Int)))))] T_uint8) →
 ∃ t5 : ByteArray, ∃ w6 : World, (convert T_sl_uint8 T_string (.slice (some ⟨b3, 0, none⟩) 6 6)).run Try.prog w4 = .ok (.string t5) w6 ∧
 K (.string t5) w6
def hollowaybook_name_an : An := ⟨[], [], []⟩
theorem hollowaybook_name_lift {i_1 : Int} {k_2 : Int} {w : World} {K : Value → World → Prop} (h : hollowaybook_name_sh i_1 k_2 w K) : Calls Try.prog fn_hollowaybook_name #[.int .i64 i_1, .int .i64 k_2] w fun e w' => ∃ v, e = .returned v ∧ K v w' :=
   lift_calls (A := hollowaybook_name_an) (c := bodyOf Try.f80) (args := [.int .i64 i_1, .int .i64 k_2]) orc orc_wide Try.func80 (by kernel_rfl) (by kernel_rfl) (Eq.mp (by kernel_rfl : hollowaybook_name_sh i_1 k_2 w K = wpc orc Try.f80.ntmps hollowaybook_name_an (bodyOf Try.f80) (argl 0 [.int .i64 i_1, .int .i64 k_2]) w (retQ orc Try.f80.results.toList K)) h)

end Go.Proofs.Ytgffaimgnmfifaa
