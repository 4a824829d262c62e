/- Functions of Hollowaylaw5, read without their frames; that each is enough. Printed by a program of mine (wip/lift/gen.py). -/
import Derived.Test.YticdjlkpkhahfaaOrc
set_option maxRecDepth 100000
namespace Go.Proofs.Yticdjlkpkhahfaa
open Go.RowKit

-- holloway/hollowaylaw5.PilePlays
def hollowaylaw5_PilePlays_sh (most1 : Int) (first2 : Sl) (l_3 : Sl) (ask4 : Int) (w : World) (K : Value → World → Prop) : Prop :=
 ∃ J3 : Bool → World → Prop, (∀ (b9 : Bool) (w8 : World), J3 b9 w8 →
 brB b9
 (Calls Try.prog fn_hollowaylaw5_alive #[] w8 fun e10 w11 => ∃ b12 : Bool, e10 = .returned (.bool b12) ∧
 K (.bool b12) w11)
 (Calls Try.prog fn_hollowaybook_LentInts #[first2.val] w8 fun e13 w14 => ∃ s15 : Sl, e13 = .returned (s15.val) ∧
 Calls Try.prog fn_pile_New #[.int .i64 most1, s15.val] w14 fun e16 w17 => ∃ p18 : Option Addr, e16 = .returned (.pointer p18) ∧
 0 ≤ (imin (first2.len : Int) (imin (imax most1 (0 : Int)) (1000 : Int))) ∧ (imin (first2.len : Int) (imin (imax most1 (0 : Int)) (1000 : Int))) ≤ (first2.cap : Int) ∧ ∀ s19 : Sl, s19 = Sl.sub first2.ptr first2.cap 0 (Int.toNat (imin (first2.len : Int) (imin (imax most1 (0 : Int)) (1000 : Int)))) 1 →
 ∃ s20 : Sl, ∃ w21 : World, (Builtin.append_ #[T_sl_int, T_sl_int] T_sl_int #[.slice none 0 0, s19.val]).run Try.prog w17 = .ok (s20.val) w21 ∧
 ∃ J10 : Bool → World → Prop, (∀ (b26 : Bool) (w25 : World), J10 b26 w25 →
 brB b26
 (K (.bool false) w25)
 (∀ (b27 : Nat) (w28 : World), b27 = w25.heap.size → w28 = World.alloc w25 (.cells #[.slice none 0 0, .slice none 0 0, .slice none 0 0, .slice none 0 0, .slice none 0 0, .slice none 0 0, .slice none 0 0, .slice none 0 0, .slice none 0 0, .slice none 0 0, .slice none 0 0, .slice none 0 0] T_hollowaybook_Book) →
 ∃ (I1 : (Option Addr) → Sl → Int → World → Prop) (μ1 : (Option Addr) → Sl → Int → World → Nat), I1 p18 s20 (0 : Int) w28 ∧ ∀ (p47 : Option Addr) (want40 : Sl) (i30 : Int) (w29 : World), I1 p47 want40 i30 w29 →
 brB (decide (i30 ≤ (l_3.len : Int)))
 (∃ J19 : (Option Addr) → Sl → Bool → World → Prop, (∀ (p130 : Option Addr) (want140 : Sl) (ok142 : Bool) (w129 : World), J19 p130 want140 ok142 w129 →
 Calls Try.prog fn_pile_Pile_All #[.pointer p130] w129 fun e131 w132 => ∃ s133 : Sl, e131 = .returned (s133.val) ∧
 Calls Try.prog fn_hollowaybook_Book_Ints #[.pointer (some ⟨b27, 0, none⟩), s133.val] w132 fun e134 w135 => e134 = .returned (.tuple #[]) ∧
 Calls Try.prog fn_pile_Pile_Peek #[.pointer p130, .int .i64 ask4] w135 fun e136 w137 => ∃ n138 : Int, ∃ b139 : Bool, e136 = .returned (.tuple #[.int .i64 n138, .bool b139]) ∧
 ∃ J59 : Bool → World → Prop, (∀ (in149 : Bool) (w141 : World), J59 in149 w141 →
 ∃ J60 : Bool → World → Prop, (∀ (b153 : Bool) (w152 : World), J60 b153 w152 →
 brB b153
 (K (.bool false) w152)
 (I1 p130 want140 (wr (i30 + (1 : Int))) w152 ∧ μ1 p130 want140 (wr (i30 + (1 : Int))) w152 < μ1 p47 want40 i30 w29)) ∧
 brB (!ok142)
 (J60 true w141)
 (Calls Try.prog fn_hollowaybook_SameInts #[s133.val, want140.val] w141 fun e143 w144 => ∃ b145 : Bool, e143 = .returned (.bool b145) ∧
 brB (!b145)
 (J60 true w144)
 (Calls Try.prog fn_pile_Pile_Len #[.pointer p130] w144 fun e146 w147 => ∃ n148 : Int, e146 = .returned (.int .i64 n148) ∧
 brB (n148 != (want140.len : Int))
 (J60 true w147)
 (brB (!(b139 == in149))
 (J60 true w147)
 (brB in149
 (∃ a150 : Addr, want140.ptr = some a150 ∧ 0 ≤ (wr ((wr ((want140.len : Int) - (1 : Int))) - ask4)) ∧ (wr ((wr ((want140.len : Int) - (1 : Int))) - ask4)) < (want140.len : Int) ∧
 ∃ n151 : Int, w147.cell? (Addr.add a150 (Int.toNat (wr ((wr ((want140.len : Int) - (1 : Int))) - ask4)) * 1)) = some (.int .i64 n151) ∧
 brB (n138 != n151)
 (J60 true w147)
 (brB (!in149)
 (J60 (n138 != (0 : Int)) w147)
 (J60 false w147)))
 (brB (!in149)
 (J60 (n138 != (0 : Int)) w147)
 (J60 false w147))))))) ∧
 brB (decide (ask4 ≥ (0 : Int)))
 (J59 (decide (ask4 < (want140.len : Int))) w137)
 (J59 false w137)) ∧
 brB (decide (i30 > (0 : Int)))
 (∃ a31 : Addr, l_3.ptr = some a31 ∧ 0 ≤ (wr (i30 - (1 : Int))) ∧ (wr (i30 - (1 : Int))) < (l_3.len : Int) ∧
 ∃ n_Kind32 : Int, ∃ n_N33 : Int, ∃ n_V34 : Int, ∃ s_L35 : Sl, w29.cell? (Addr.add a31 (Int.toNat (wr (i30 - (1 : Int))) * 4)) = some (.int .i64 n_Kind32) ∧ w29.cell? (Addr.add (Addr.add a31 (Int.toNat (wr (i30 - (1 : Int))) * 4)) 1) = some (.int .i64 n_N33) ∧ w29.cell? (Addr.add (Addr.add a31 (Int.toNat (wr (i30 - (1 : Int))) * 4)) 2) = some (.int .i64 n_V34) ∧ w29.cell? (Addr.add (Addr.add a31 (Int.toNat (wr (i30 - (1 : Int))) * 4)) 3) = some (s_L35.val) ∧
 ∀ (b36 : Nat) (w37 : World), b36 = w29.heap.size → w37 = World.alloc w29 (.cells #[.int .i64 (0 : Int), .int .i64 (0 : Int), .int .i64 (0 : Int), .slice none 0 0] T_hollowaylaw5_Op) →
 wrOk w37 ⟨b36, 0, none⟩ 4 ∧ ∀ w38 : World, w38 = stW w37 ⟨b36, 0, none⟩ 0 [.int .i64 n_Kind32, .int .i64 n_N33, .int .i64 n_V34, s_L35.val] →
 ∃ s39 : Sl, w38.cell? ⟨b36, 3, none⟩ = some (s39.val) ∧
 brB (decide ((s39.len : Int) > (60 : Int)))
 (K (.bool true) w38)
 (∃ n41 : Int, w38.cell? ⟨b36, 0, none⟩ = some (.int .i64 n41) ∧
 brB (n41 == (1 : Int))
 (∃ s42 : Sl, w38.cell? ⟨b36, 3, none⟩ = some (s42.val) ∧
 Calls Try.prog fn_hollowaybook_LentInts #[s42.val] w38 fun e43 w44 => ∃ s45 : Sl, e43 = .returned (s45.val) ∧
 ∃ s46 : Sl, w44.cell? ⟨b36, 3, none⟩ = some (s46.val) ∧
 ∃ J30 : Bool → World → Prop, (∀ (ok187 : Bool) (w55 : World), J30 ok187 w55 →
 brB (decide ((s46.len : Int) ≤ (wr ((imin (imax most1 (0 : Int)) (1000 : Int)) - (want40.len : Int)))))
 (∀ w56 : World, w56 = World.drew w55 →
 ∃ S57 : World → Prop, S57 w56 ∧
 ∃ s58 : Sl, held S57 ⟨b36, 3, none⟩ (s58.val) ∧
 ∃ s59 : Sl, ∃ w60 : World, (Builtin.append_ #[T_sl_int, T_sl_int] T_sl_int #[.slice none 0 0, want40.val]).run Try.prog w56 = .ok (s59.val) w60 ∧
 S57 w60 ∧
 ∃ s61 : Sl, ∃ w62 : World, (Builtin.append_ #[T_sl_int, T_sl_int] T_sl_int #[s59.val, s58.val]).run Try.prog w60 = .ok (s61.val) w62 ∧
 J19 p47 s61 ok187 w62)
 (J19 p47 want40 ok187 w55)) ∧
 Calls Try.prog fn_pile_Pile_Push #[.pointer p47, s45.val] w44 fun e48 w49 => ∃ b50 : Bool, e48 = .returned (.bool b50) ∧
 brB (b50 == (decide ((s46.len : Int) ≤ (wr ((imin (imax most1 (0 : Int)) (1000 : Int)) - (want40.len : Int))))))
 (∃ s51 : Sl, w49.cell? ⟨b36, 3, none⟩ = some (s51.val) ∧
 Calls Try.prog fn_hollowaybook_StaysInts #[s45.val, s51.val] w49 fun e52 w53 => ∃ b54 : Bool, e52 = .returned (.bool b54) ∧
 J30 b54 w53)
 (J30 false w49))
 (brB (n41 == (2 : Int))
 (∃ J33 : Bool → World → Prop, (∀ (may73 : Bool) (w65 : World), J33 may73 w65 →
 ∃ n66 : Int, w65.cell? ⟨b36, 1, none⟩ = some (.int .i64 n66) ∧
 Calls Try.prog fn_pile_Pile_Pop #[.pointer p47, .int .i64 n66] w65 fun e67 w68 => ∃ s69 : Sl, ∃ b70 : Bool, e67 = .returned (.tuple #[s69.val, .bool b70]) ∧
 Calls Try.prog fn_hollowaybook_Book_Ints #[.pointer (some ⟨b27, 0, none⟩), s69.val] w68 fun e71 w72 => e71 = .returned (.tuple #[]) ∧
 ∃ J36 : Bool → World → Prop, (∀ (ok188 : Bool) (w79 : World), J36 ok188 w79 →
 brB may73
 (∃ n80 : Int, w79.cell? ⟨b36, 1, none⟩ = some (.int .i64 n80) ∧
 0 ≤ (wr ((want40.len : Int) - n80)) ∧ (wr ((want40.len : Int) - n80)) ≤ (want40.cap : Int) ∧ ∀ s81 : Sl, s81 = Sl.sub want40.ptr want40.cap 0 (Int.toNat (wr ((want40.len : Int) - n80))) 1 →
 ∃ s82 : Sl, ∃ w83 : World, (Builtin.append_ #[T_sl_int, T_sl_int] T_sl_int #[.slice none 0 0, s81.val]).run Try.prog w79 = .ok (s82.val) w83 ∧
 J19 p47 s82 ok188 w83)
 (J19 p47 want40 ok188 w79)) ∧
 brB (b70 == may73)
 (brB may73
 (∃ n74 : Int, w72.cell? ⟨b36, 1, none⟩ = some (.int .i64 n74) ∧
 0 ≤ (wr ((want40.len : Int) - n74)) ∧ (wr ((want40.len : Int) - n74)) ≤ (want40.len : Int) ∧ ∀ s75 : Sl, s75 = Sl.sub want40.ptr want40.cap (Int.toNat (wr ((want40.len : Int) - n74))) want40.len 1 →
 Calls Try.prog fn_hollowaybook_SameInts #[s69.val, s75.val] w72 fun e76 w77 => ∃ b78 : Bool, e76 = .returned (.bool b78) ∧
 brB b78
 (J36 true w77)
 (brB (!may73)
 (J36 ((s69.len : Int) == (0 : Int)) w77)
 (J36 false w77)))
 (brB (!may73)
 (J36 ((s69.len : Int) == (0 : Int)) w72)
 (J36 false w72)))
 (J36 false w72)) ∧
 ∃ n63 : Int, w38.cell? ⟨b36, 1, none⟩ = some (.int .i64 n63) ∧
 brB (decide (n63 ≥ (0 : Int)))
 (∃ n64 : Int, w38.cell? ⟨b36, 1, none⟩ = some (.int .i64 n64) ∧
 J33 (decide (n64 ≤ (want40.len : Int))) w38)
 (J33 false w38))
 (brB (n41 == (3 : Int))
 (∃ J39 : Bool → World → Prop, (∀ (may92 : Bool) (w86 : World), J39 may92 w86 →
 ∃ n87 : Int, w86.cell? ⟨b36, 1, none⟩ = some (.int .i64 n87) ∧
 ∃ n88 : Int, w86.cell? ⟨b36, 2, none⟩ = some (.int .i64 n88) ∧
 Calls Try.prog fn_pile_Pile_Set #[.pointer p47, .int .i64 n87, .int .i64 n88] w86 fun e89 w90 => ∃ b91 : Bool, e89 = .returned (.bool b91) ∧
 brB may92
 (∃ s93 : Sl, ∃ w94 : World, (Builtin.append_ #[T_sl_int, T_sl_int] T_sl_int #[.slice none 0 0, want40.val]).run Try.prog w90 = .ok (s93.val) w94 ∧
 ∃ n95 : Int, w94.cell? ⟨b36, 1, none⟩ = some (.int .i64 n95) ∧
 ∃ n96 : Int, w94.cell? ⟨b36, 2, none⟩ = some (.int .i64 n96) ∧
 ∃ a97 : Addr, s93.ptr = some a97 ∧ 0 ≤ (wr ((wr ((want40.len : Int) - (1 : Int))) - n95)) ∧ (wr ((wr ((want40.len : Int) - (1 : Int))) - n95)) < (s93.len : Int) ∧
 wrOk w94 (Addr.add a97 (Int.toNat (wr ((wr ((want40.len : Int) - (1 : Int))) - n95)) * 1)) 1 ∧ ∀ w98 : World, w98 = stW w94 (Addr.add a97 (Int.toNat (wr ((wr ((want40.len : Int) - (1 : Int))) - n95)) * 1)) 0 [.int .i64 n96] →
 J19 p47 s93 (b91 == may92) w98)
 (J19 p47 want40 (b91 == may92) w90)) ∧
 ∃ n84 : Int, w38.cell? ⟨b36, 1, none⟩ = some (.int .i64 n84) ∧
 brB (decide (n84 ≥ (0 : Int)))
 (∃ n85 : Int, w38.cell? ⟨b36, 1, none⟩ = some (.int .i64 n85) ∧
 J39 (decide (n85 < (want40.len : Int))) w38)
 (J39 false w38))
 (brB (n41 == (4 : Int))
 (∃ J44 : Bool → World → Prop, (∀ (may106 : Bool) (w101 : World), J44 may106 w101 →
 ∃ n102 : Int, w101.cell? ⟨b36, 1, none⟩ = some (.int .i64 n102) ∧
 Calls Try.prog fn_pile_Pile_Cut #[.pointer p47, .int .i64 n102] w101 fun e103 w104 => ∃ b105 : Bool, e103 = .returned (.bool b105) ∧
 brB may106
 (∃ n107 : Int, w104.cell? ⟨b36, 1, none⟩ = some (.int .i64 n107) ∧
 0 ≤ (imin (want40.len : Int) n107) ∧ (imin (want40.len : Int) n107) ≤ (want40.cap : Int) ∧ ∀ s108 : Sl, s108 = Sl.sub want40.ptr want40.cap 0 (Int.toNat (imin (want40.len : Int) n107)) 1 →
 ∃ s109 : Sl, ∃ w110 : World, (Builtin.append_ #[T_sl_int, T_sl_int] T_sl_int #[.slice none 0 0, s108.val]).run Try.prog w104 = .ok (s109.val) w110 ∧
 ∃ (I2 : Sl → World → Prop) (μ2 : Sl → World → Nat), I2 s109 w110 ∧ ∀ (want112 : Sl) (w111 : World), I2 want112 w111 →
 ∃ n113 : Int, w111.cell? ⟨b36, 1, none⟩ = some (.int .i64 n113) ∧
 brB (decide ((want112.len : Int) < n113))
 (∀ (b114 : Nat) (w115 : World), b114 = w111.heap.size → w115 = World.alloc w111 (.cells #[.int .i64 (0 : Int)] T_int) →
 ∃ s116 : Sl, ∃ w117 : World, (Builtin.append_ #[T_sl_int, T_sl_int] T_sl_int #[want112.val, .slice (some ⟨b114, 0, none⟩) 1 1]).run Try.prog w115 = .ok (s116.val) w117 ∧
 I2 s116 w117 ∧ μ2 s116 w117 < μ2 want112 w111)
 (J19 p47 want112 (b105 == may106) w111))
 (J19 p47 want40 (b105 == may106) w104)) ∧
 ∃ n99 : Int, w38.cell? ⟨b36, 1, none⟩ = some (.int .i64 n99) ∧
 brB (decide (n99 ≥ (0 : Int)))
 (∃ n100 : Int, w38.cell? ⟨b36, 1, none⟩ = some (.int .i64 n100) ∧
 J44 (decide (n100 ≤ (imin (imax most1 (0 : Int)) (1000 : Int)))) w38)
 (J44 false w38))
 (Calls Try.prog fn_pile_Pile_Copy #[.pointer p47] w38 fun e118 w119 => ∃ p120 : Option Addr, e118 = .returned (.pointer p120) ∧
 brB (Option.isNone p120)
 (K (.bool false) w119)
 (∀ (b121 : Nat) (w122 : World), b121 = w119.heap.size → w122 = World.alloc w119 (.cells #[.int .i64 (7 : Int)] T_int) →
 Calls Try.prog fn_pile_Pile_Push #[.pointer p47, .slice (some ⟨b121, 0, none⟩) 1 1] w122 fun e123 w124 => ∃ b125 : Bool, e123 = .returned (.bool b125) ∧
 Calls Try.prog fn_pile_Pile_Set #[.pointer p47, .int .i64 (0 : Int), .int .i64 (-7 : Int)] w124 fun e126 w127 => ∃ b128 : Bool, e126 = .returned (.bool b128) ∧
 J19 p120 want40 true w127)))))))
 (J19 p47 want40 true w29))
 (Calls Try.prog fn_pile_Pile_Pop #[.pointer none, .int .i64 (0 : Int)] w29 fun e154 w155 => ∃ s156 : Sl, ∃ b157 : Bool, e154 = .returned (.tuple #[s156.val, .bool b157]) ∧
 Calls Try.prog fn_pile_Pile_Peek #[.pointer none, .int .i64 (0 : Int)] w155 fun e158 w159 => ∃ n160 : Int, ∃ b161 : Bool, e158 = .returned (.tuple #[.int .i64 n160, .bool b161]) ∧
 brB (!b157)
 (brB (!b161)
 (∀ (b162 : Nat) (w163 : World), b162 = w159.heap.size → w163 = World.alloc w159 (.cells #[.int .i64 (1 : Int)] T_int) →
 Calls Try.prog fn_pile_Pile_Push #[.pointer none, .slice (some ⟨b162, 0, none⟩) 1 1] w163 fun e164 w165 => ∃ b166 : Bool, e164 = .returned (.bool b166) ∧
 brB (!b166)
 (Calls Try.prog fn_pile_Pile_Set #[.pointer none, .int .i64 (0 : Int), .int .i64 (1 : Int)] w165 fun e167 w168 => ∃ b169 : Bool, e167 = .returned (.bool b169) ∧
 brB (!b169)
 (Calls Try.prog fn_pile_Pile_Cut #[.pointer none, .int .i64 (0 : Int)] w168 fun e170 w171 => ∃ b172 : Bool, e170 = .returned (.bool b172) ∧
 brB (!b172)
 (Calls Try.prog fn_pile_Pile_Len #[.pointer none] w171 fun e173 w174 => ∃ n175 : Int, e173 = .returned (.int .i64 n175) ∧
 Calls Try.prog fn_pile_Pile_All #[.pointer none] w174 fun e176 w177 => ∃ s178 : Sl, e176 = .returned (s178.val) ∧
 brB ((wr (n175 + (s178.len : Int))) == (0 : Int))
 (Calls Try.prog fn_pile_Pile_Copy #[.pointer none] w177 fun e179 w180 => ∃ p181 : Option Addr, e179 = .returned (.pointer p181) ∧
 brB (Option.isNone p181)
 (Calls Try.prog fn_hollowaybook_Book_Apart #[.pointer (some ⟨b27, 0, none⟩)] w180 fun e182 w183 => ∃ b184 : Bool, e182 = .returned (.bool b184) ∧
 K (.bool b184) w183)
 (K (.bool false) w180))
 (K (.bool false) w177))
 (K (.bool false) w171))
 (K (.bool false) w168))
 (K (.bool false) w165))
 (K (.bool false) w159))
 (K (.bool false) w159)))) ∧
 brB (Option.isNone p18)
 (J10 true w21)
 (Calls Try.prog fn_hollowaybook_StaysInts #[s15.val, first2.val] w21 fun e22 w23 => ∃ b24 : Bool, e22 = .returned (.bool b24) ∧
 J10 (!b24) w23))) ∧
 brB (decide ((first2.len : Int) > (60 : Int)))
 (J3 true w)
 (brB (decide ((l_3.len : Int) > (80 : Int)))
 (J3 true w)
 (Calls Try.prog fn_hollowaylaw5_alive #[] w fun e5 w6 => ∃ b7 : Bool, e5 = .returned (.bool b7) ∧
 J3 (!b7) w6))
def hollowaylaw5_PilePlays_an : An := ⟨[(11, [(10, .ptr), (12, .sl), (14, .int .i64)]), (50, [(12, .sl)])], [(31, (4, .st 0 (.st 2 (.st 3 (.ef 1 .done))), 1))], [(2, [(46, .bool)]), (8, [(70, .bool)]), (30, [(15, .bool)]), (37, [(15, .bool)]), (34, [(20, .bool)]), (41, [(23, .bool)]), (47, [(24, .bool)]), (57, [(312, .bool)]), (56, [(29, .bool)]), (52, [(10, .ptr), (12, .sl), (15, .bool)])]⟩
theorem hollowaylaw5_PilePlays_lift {most1 : Int} {first2 : Sl} {l_3 : Sl} {ask4 : Int} {w : World} {K : Value → World → Prop} (h : hollowaylaw5_PilePlays_sh most1 first2 l_3 ask4 w K) : Calls Try.prog fn_hollowaylaw5_PilePlays #[.int .i64 most1, first2.val, l_3.val, .int .i64 ask4] w fun e w' => ∃ v, e = .returned v ∧ K v w' :=
   lift_calls (A := hollowaylaw5_PilePlays_an) (c := bodyOf Try.f3) (args := [.int .i64 most1, first2.val, l_3.val, .int .i64 ask4]) orc orc_wide Try.func3 (by kernel_rfl) (by kernel_rfl) (Eq.mp (by kernel_rfl : hollowaylaw5_PilePlays_sh most1 first2 l_3 ask4 w K = wpc orc Try.f3.ntmps hollowaylaw5_PilePlays_an (bodyOf Try.f3) (argl 0 [.int .i64 most1, first2.val, l_3.val, .int .i64 ask4]) w (retQ orc Try.f3.results.toList K)) h)

-- holloway/hollowaylaw5.alive
def hollowaylaw5_alive_sh  (w : World) (K : Value → World → Prop) : Prop :=
 ∀ (b1 : Nat) (w2 : World), b1 = w.heap.size → w2 = World.alloc w (.cells #[.int .i64 (1 : Int), .int .i64 (2 : Int)] T_int) →
 Calls Try.prog fn_pile_New #[.int .i64 (3 : Int), .slice (some ⟨b1, 0, none⟩) 2 2] w2 fun e3 w4 => ∃ p5 : Option Addr, e3 = .returned (.pointer p5) ∧
 ∃ J4 : Bool → World → Prop, (∀ (b17 : Bool) (w16 : World), J4 b17 w16 →
 brB b17
 (K (.bool false) w16)
 (Calls Try.prog fn_pile_Pile_Pop #[.pointer p5, .int .i64 (2 : Int)] w16 fun e18 w19 => ∃ s20 : Sl, ∃ b21 : Bool, e18 = .returned (.tuple #[s20.val, .bool b21]) ∧
 brB b21
 (brB ((s20.len : Int) == (2 : Int))
 (∃ a22 : Addr, s20.ptr = some a22 ∧ 0 ≤ (0 : Int) ∧ (0 : Int) < (s20.len : Int) ∧
 ∃ n23 : Int, w19.cell? (Addr.add a22 (Int.toNat (0 : Int) * 1)) = some (.int .i64 n23) ∧
 brB (n23 == (2 : Int))
 (∃ a24 : Addr, s20.ptr = some a24 ∧ 0 ≤ (1 : Int) ∧ (1 : Int) < (s20.len : Int) ∧
 ∃ n25 : Int, w19.cell? (Addr.add a24 (Int.toNat (1 : Int) * 1)) = some (.int .i64 n25) ∧
 brB (n25 == (3 : Int))
 (Calls Try.prog fn_pile_Pile_Len #[.pointer p5] w19 fun e26 w27 => ∃ n28 : Int, e26 = .returned (.int .i64 n28) ∧
 K (.bool (n28 == (1 : Int))) w27)
 (K (.bool false) w19))
 (K (.bool false) w19))
 (K (.bool false) w19))
 (K (.bool false) w19))) ∧
 brB (Option.isNone p5)
 (J4 true w4)
 (∀ (b6 : Nat) (w7 : World), b6 = w4.heap.size → w7 = World.alloc w4 (.cells #[.int .i64 (3 : Int), .int .i64 (4 : Int)] T_int) →
 Calls Try.prog fn_pile_Pile_Push #[.pointer p5, .slice (some ⟨b6, 0, none⟩) 2 2] w7 fun e8 w9 => ∃ b10 : Bool, e8 = .returned (.bool b10) ∧
 brB b10
 (J4 true w9)
 (∀ (b11 : Nat) (w12 : World), b11 = w9.heap.size → w12 = World.alloc w9 (.cells #[.int .i64 (3 : Int)] T_int) →
 Calls Try.prog fn_pile_Pile_Push #[.pointer p5, .slice (some ⟨b11, 0, none⟩) 1 1] w12 fun e13 w14 => ∃ b15 : Bool, e13 = .returned (.bool b15) ∧
 J4 (!b15) w14))
def hollowaylaw5_alive_an : An := ⟨[], [], [(3, [(18, .bool)])]⟩
theorem hollowaylaw5_alive_lift  {w : World} {K : Value → World → Prop} (h : hollowaylaw5_alive_sh  w K) : Calls Try.prog fn_hollowaylaw5_alive #[] w fun e w' => ∃ v, e = .returned v ∧ K v w' :=
   lift_calls (A := hollowaylaw5_alive_an) (c := bodyOf Try.f4) (args := []) orc orc_wide Try.func4 (by kernel_rfl) (by kernel_rfl) (Eq.mp (by kernel_rfl : hollowaylaw5_alive_sh  w K = wpc orc Try.f4.ntmps hollowaylaw5_alive_an (bodyOf Try.f4) (argl 0 []) w (retQ orc Try.f4.results.toList K)) h)

end Go.Proofs.Yticdjlkpkhahfaa
