/- Functions of Hollowaylaw6, read without their frames; that each is enough. Printed by a program of mine (wip/lift/gen.py). -/
import Derived.Test.YtijoigpggphajaaOrc
set_option maxRecDepth 100000
namespace Go.Proofs.Ytijoigpggphajaa
open Go.RowKit

-- holloway/hollowaylaw6.OpNames
def hollowaylaw6_OpNames_sh (o_1 : Int) (more2 : ByteArray) (w : World) (K : Value → World → Prop) : Prop :=
 ∃ J3 : Bool → World → Prop, (∀ (b10 : Bool) (w9 : World), J3 b10 w9 →
 brB b10
 (Calls Try.prog fn_hollowaylaw6_alive #[] w9 fun e11 w12 => ∃ b13 : Bool, e11 = .returned (.bool b13) ∧
 K (.bool b13) w12)
 (Calls Try.prog fn_op_Name #[.int .i64 o_1] w9 fun e14 w15 => ∃ t16 : ByteArray, e14 = .returned (.string t16) ∧
 ∃ s17 : Sl, ∃ w18 : World, (convert T_string T_sl_uint8 (.string t16)).run Try.prog w15 = .ok (s17.val) w18 ∧
 ∃ (I1 : Int → World → Prop) (μ1 : Int → World → Nat), I1 (0 : Int) w18 ∧ ∀ (i20 : Int) (w19 : World), I1 i20 w19 →
 brB (decide (i20 < (s17.len : Int)))
 (∃ J10 : World → Prop, (∀ (w31 : World), J10  w31 →
 I1 (wr (i20 + (1 : Int))) w31 ∧ μ1 (wr (i20 + (1 : Int))) w31 < μ1 i20 w19) ∧
 ∃ J11 : Bool → World → Prop, (∀ (b26 : Bool) (w25 : World), J11 b26 w25 →
 brB b26
 (∃ a27 : Addr, s17.ptr = some a27 ∧ 0 ≤ i20 ∧ i20 < (s17.len : Int) ∧
 ∃ n28 : Int, w25.cell? (Addr.add a27 (Int.toNat i20 * 1)) = some (.int .u8 n28) ∧
 ∃ a29 : Addr, s17.ptr = some a29 ∧ 0 ≤ i20 ∧ i20 < (s17.len : Int) ∧
 wrOk w25 (Addr.add a29 (Int.toNat i20 * 1)) 1 ∧ ∀ w30 : World, w30 = stW w25 (Addr.add a29 (Int.toNat i20 * 1)) 0 [.int .u8 (IntKind.wrap .u8 (n28 + (32 : Int)))] →
 J10  w30)
 (J10  w25)) ∧
 ∃ a21 : Addr, s17.ptr = some a21 ∧ 0 ≤ i20 ∧ i20 < (s17.len : Int) ∧
 ∃ n22 : Int, w19.cell? (Addr.add a21 (Int.toNat i20 * 1)) = some (.int .u8 n22) ∧
 brB (decide (n22 ≥ (65 : Int)))
 (∃ a23 : Addr, s17.ptr = some a23 ∧ 0 ≤ i20 ∧ i20 < (s17.len : Int) ∧
 ∃ n24 : Int, w19.cell? (Addr.add a23 (Int.toNat i20 * 1)) = some (.int .u8 n24) ∧
 J11 (decide (n24 ≤ (90 : Int))) w19)
 (J11 false w19))
 (∃ t32 : ByteArray, ∃ w33 : World, (convert T_sl_uint8 T_string (s17.val)).run Try.prog w19 = .ok (.string t32) w33 ∧
 Calls Try.prog fn_op_Of #[.string t32] w33 fun e34 w35 => ∃ n36 : Int, ∃ b37 : Bool, e34 = .returned (.tuple #[.int .i64 n36, .bool b37]) ∧
 Calls Try.prog fn_op_Name #[.int .i64 o_1] w35 fun e38 w39 => ∃ t40 : ByteArray, e38 = .returned (.string t40) ∧
 ((t40).size : Int) + ((more2).size : Int) ≤ 9223372036854775807 ∧ Calls Try.prog fn_op_Of #[.string (t40 ++ more2)] w39 fun e41 w42 => ∃ n43 : Int, ∃ b44 : Bool, e41 = .returned (.tuple #[.int .i64 n43, .bool b44]) ∧
 brB b37
 (brB (n36 == o_1)
 (brB (more2.toList == (bs []).toList)
 (K (.bool true) w42)
 (brB (!b44)
 (K (.bool true) w42)
 (K (.bool (n43 != o_1)) w42)))
 (K (.bool false) w42))
 (K (.bool false) w42)))) ∧
 Calls Try.prog fn_op_Right #[.int .i64 o_1] w fun e3 w4 => ∃ b5 : Bool, e3 = .returned (.bool b5) ∧
 brB (!b5)
 (J3 true w4)
 (brB (decide ((more2.size : Int) > (20 : Int)))
 (J3 true w4)
 (Calls Try.prog fn_hollowaylaw6_alive #[] w4 fun e6 w7 => ∃ b8 : Bool, e6 = .returned (.bool b8) ∧
 J3 (!b8) w7))
def hollowaylaw6_OpNames_an : An := ⟨[(5, [(6, .int .i64)])], [], [(2, [(22, .bool)]), (8, [(44, .bool)]), (6, [])]⟩
theorem hollowaylaw6_OpNames_lift {o_1 : Int} {more2 : ByteArray} {w : World} {K : Value → World → Prop} (h : hollowaylaw6_OpNames_sh o_1 more2 w K) : Calls Try.prog fn_hollowaylaw6_OpNames #[.int .i64 o_1, .string more2] w fun e w' => ∃ v, e = .returned v ∧ K v w' :=
   lift_calls (A := hollowaylaw6_OpNames_an) (c := bodyOf Try.f6) (args := [.int .i64 o_1, .string more2]) orc orc_wide Try.func6 (by kernel_rfl) (by kernel_rfl) (Eq.mp (by kernel_rfl : hollowaylaw6_OpNames_sh o_1 more2 w K = wpc orc Try.f6.ntmps hollowaylaw6_OpNames_an (bodyOf Try.f6) (argl 0 [.int .i64 o_1, .string more2]) w (retQ orc Try.f6.results.toList K)) h)

-- holloway/hollowaylaw6.OpTells
def hollowaylaw6_OpTells_sh (o_1 : Int) (s_2 : ByteArray) (w : World) (K : Value → World → Prop) : Prop :=
 ∃ J3 : Bool → World → Prop, (∀ (b7 : Bool) (w6 : World), J3 b7 w6 →
 brB b7
 (Calls Try.prog fn_hollowaylaw6_alive #[] w6 fun e8 w9 => ∃ b10 : Bool, e8 = .returned (.bool b10) ∧
 K (.bool b10) w9)
 (Calls Try.prog fn_op_Takes #[.int .i64 o_1] w6 fun e11 w12 => ∃ n13 : Int, ∃ n14 : Int, e11 = .returned (.tuple #[.int .i64 n13, .int .i64 n14]) ∧
 Calls Try.prog fn_op_Gives #[.int .i64 o_1] w12 fun e15 w16 => ∃ n17 : Int, ∃ n18 : Int, e15 = .returned (.tuple #[.int .i64 n17, .int .i64 n18]) ∧
 Calls Try.prog fn_hollowayref1_Moves #[.int .i64 o_1] w16 fun e19 w20 => ∃ n21 : Int, ∃ n22 : Int, ∃ n23 : Int, ∃ n24 : Int, e19 = .returned (.tuple #[.int .i64 n21, .int .i64 n22, .int .i64 n23, .int .i64 n24]) ∧
 Calls Try.prog fn_op_Of #[.string s_2] w20 fun e25 w26 => ∃ n27 : Int, ∃ b28 : Bool, e25 = .returned (.tuple #[.int .i64 n27, .bool b28]) ∧
 ∃ (I1 : Int → Bool → Int → World → Prop) (μ1 : Int → Bool → Int → World → Nat), I1 (0 : Int) false (0 : Int) w26 ∧ ∀ (want69 : Int) (is70 : Bool) (k30 : Int) (w29 : World), I1 want69 is70 k30 w29 →
 brB (decide (k30 < (48 : Int)))
 (∃ J14 : Int → Bool → World → Prop, (∀ (want76 : Int) (is77 : Bool) (w37 : World), J14 want76 is77 w37 →
 I1 want76 is77 (wr (k30 + (1 : Int))) w37 ∧ μ1 want76 is77 (wr (k30 + (1 : Int))) w37 < μ1 want69 is70 k30 w29) ∧
 Calls Try.prog fn_hollowayref1_Name #[.int .i64 k30] w29 fun e31 w32 => ∃ t33 : ByteArray, e31 = .returned (.string t33) ∧
 Calls Try.prog fn_hollowayref1_Same #[.string t33, .string s_2] w32 fun e34 w35 => ∃ b36 : Bool, e34 = .returned (.bool b36) ∧
 brB b36
 (J14 k30 true w35)
 (J14 want69 is70 w35))
 (Calls Try.prog fn_op_Name #[.int .i64 o_1] w29 fun e38 w39 => ∃ t40 : ByteArray, e38 = .returned (.string t40) ∧
 Calls Try.prog fn_op_Of #[.string t40] w39 fun e41 w42 => ∃ n43 : Int, ∃ b44 : Bool, e41 = .returned (.tuple #[.int .i64 n43, .bool b44]) ∧
 Calls Try.prog fn_op_Right #[.int .i64 o_1] w42 fun e45 w46 => ∃ b47 : Bool, e45 = .returned (.bool b47) ∧
 Calls Try.prog fn_hollowayref1_Op #[.int .i64 o_1] w46 fun e48 w49 => ∃ b50 : Bool, e48 = .returned (.bool b50) ∧
 brB (b47 == b50)
 (Calls Try.prog fn_op_Name #[.int .i64 o_1] w49 fun e51 w52 => ∃ t53 : ByteArray, e51 = .returned (.string t53) ∧
 Calls Try.prog fn_hollowayref1_Name #[.int .i64 o_1] w52 fun e54 w55 => ∃ t56 : ByteArray, e54 = .returned (.string t56) ∧
 brB (t53.toList == t56.toList)
 (Calls Try.prog fn_op_Arg #[.int .i64 o_1] w55 fun e57 w58 => ∃ b59 : Bool, e57 = .returned (.bool b59) ∧
 Calls Try.prog fn_hollowayref1_Arg #[.int .i64 o_1] w58 fun e60 w61 => ∃ b62 : Bool, e60 = .returned (.bool b62) ∧
 brB (b59 == b62)
 (brB (n13 == n21)
 (brB (n14 == n22)
 (brB (n17 == n23)
 (brB (n18 == n24)
 (Calls Try.prog fn_op_Plain #[.int .i64 o_1] w61 fun e63 w64 => ∃ b65 : Bool, e63 = .returned (.bool b65) ∧
 Calls Try.prog fn_hollowayref1_Plain #[.int .i64 o_1] w64 fun e66 w67 => ∃ b68 : Bool, e66 = .returned (.bool b68) ∧
 brB (b65 == b68)
 (brB (n27 == want69)
 (brB (b28 == is70)
 (Calls Try.prog fn_hollowayref1_Op #[.int .i64 o_1] w67 fun e71 w72 => ∃ b73 : Bool, e71 = .returned (.bool b73) ∧
 brB (b44 == b73)
 (brB (!b44)
 (K (.bool true) w72)
 (K (.bool (n43 == o_1)) w72))
 (K (.bool false) w72))
 (K (.bool false) w67))
 (K (.bool false) w67))
 (K (.bool false) w67))
 (K (.bool false) w61))
 (K (.bool false) w61))
 (K (.bool false) w61))
 (K (.bool false) w61))
 (K (.bool false) w61))
 (K (.bool false) w55))
 (K (.bool false) w49)))) ∧
 brB (decide ((s_2.size : Int) > (60 : Int)))
 (J3 true w)
 (Calls Try.prog fn_hollowaylaw6_alive #[] w fun e3 w4 => ∃ b5 : Bool, e3 = .returned (.bool b5) ∧
 J3 (!b5) w4)
def hollowaylaw6_OpTells_an : An := ⟨[(9, [(15, .int .i64), (16, .bool), (17, .int .i64)])], [], [(2, [(26, .bool)]), (10, [(15, .int .i64), (16, .bool)])]⟩
theorem hollowaylaw6_OpTells_lift {o_1 : Int} {s_2 : ByteArray} {w : World} {K : Value → World → Prop} (h : hollowaylaw6_OpTells_sh o_1 s_2 w K) : Calls Try.prog fn_hollowaylaw6_OpTells #[.int .i64 o_1, .string s_2] w fun e w' => ∃ v, e = .returned v ∧ K v w' :=
   lift_calls (A := hollowaylaw6_OpTells_an) (c := bodyOf Try.f7) (args := [.int .i64 o_1, .string s_2]) orc orc_wide Try.func7 (by kernel_rfl) (by kernel_rfl) (Eq.mp (by kernel_rfl : hollowaylaw6_OpTells_sh o_1 s_2 w K = wpc orc Try.f7.ntmps hollowaylaw6_OpTells_an (bodyOf Try.f7) (argl 0 [.int .i64 o_1, .string s_2]) w (retQ orc Try.f7.results.toList K)) h)

-- holloway/hollowaylaw6.OpBalance
def hollowaylaw6_OpBalance_sh (a_1 : Int) (b_2 : Int) (w : World) (K : Value → World → Prop) : Prop :=
 Calls Try.prog fn_hollowaylaw6_alive #[] w fun e3 w4 => ∃ b5 : Bool, e3 = .returned (.bool b5) ∧
 brB (!b5)
 (K (.bool false) w4)
 (Calls Try.prog fn_op_Takes #[.int .i64 a_1] w4 fun e6 w7 => ∃ n8 : Int, ∃ n9 : Int, e6 = .returned (.tuple #[.int .i64 n8, .int .i64 n9]) ∧
 Calls Try.prog fn_op_Gives #[.int .i64 a_1] w7 fun e10 w11 => ∃ n12 : Int, ∃ n13 : Int, e10 = .returned (.tuple #[.int .i64 n12, .int .i64 n13]) ∧
 ∃ J8 : Bool → World → Prop, (∀ (b18 : Bool) (w17 : World), J8 b18 w17 →
 brB b18
 (K (.bool false) w17)
 (∃ J11 : Bool → World → Prop, (∀ (b32 : Bool) (w31 : World), J11 b32 w31 →
 brB b32
 (K (.bool false) w31)
 (Calls Try.prog fn_op_Right #[.int .i64 a_1] w31 fun e33 w34 => ∃ b35 : Bool, e33 = .returned (.bool b35) ∧
 brB (decide (a_1 ≥ (0 : Int)))
 (brB (b35 == (decide (a_1 < (48 : Int))))
 (Calls Try.prog fn_op_Right #[.int .i64 a_1] w34 fun e36 w37 => ∃ b38 : Bool, e36 = .returned (.bool b38) ∧
 brB b38
 (K (.bool true) w37)
 (Calls Try.prog fn_op_Name #[.int .i64 a_1] w37 fun e39 w40 => ∃ t41 : ByteArray, e39 = .returned (.string t41) ∧
 brB (t41.toList == (bs []).toList)
 (Calls Try.prog fn_op_Plain #[.int .i64 a_1] w40 fun e42 w43 => ∃ b44 : Bool, e42 = .returned (.bool b44) ∧
 brB (!b44)
 (Calls Try.prog fn_op_Arg #[.int .i64 a_1] w43 fun e45 w46 => ∃ b47 : Bool, e45 = .returned (.bool b47) ∧
 K (.bool (!b47)) w46)
 (K (.bool false) w43))
 (K (.bool false) w40)))
 (K (.bool false) w34))
 (brB (b35 == false)
 (Calls Try.prog fn_op_Right #[.int .i64 a_1] w34 fun e48 w49 => ∃ b50 : Bool, e48 = .returned (.bool b50) ∧
 brB b50
 (K (.bool true) w49)
 (Calls Try.prog fn_op_Name #[.int .i64 a_1] w49 fun e51 w52 => ∃ t53 : ByteArray, e51 = .returned (.string t53) ∧
 brB (t53.toList == (bs []).toList)
 (Calls Try.prog fn_op_Plain #[.int .i64 a_1] w52 fun e54 w55 => ∃ b56 : Bool, e54 = .returned (.bool b56) ∧
 brB (!b56)
 (Calls Try.prog fn_op_Arg #[.int .i64 a_1] w55 fun e57 w58 => ∃ b59 : Bool, e57 = .returned (.bool b59) ∧
 K (.bool (!b59)) w58)
 (K (.bool false) w55))
 (K (.bool false) w52)))
 (K (.bool false) w34)))) ∧
 Calls Try.prog fn_op_Right #[.int .i64 a_1] w17 fun e19 w20 => ∃ b21 : Bool, e19 = .returned (.bool b21) ∧
 brB b21
 (Calls Try.prog fn_op_Right #[.int .i64 b_2] w20 fun e22 w23 => ∃ b24 : Bool, e22 = .returned (.bool b24) ∧
 brB b24
 (brB (a_1 != b_2)
 (Calls Try.prog fn_op_Name #[.int .i64 a_1] w23 fun e25 w26 => ∃ t27 : ByteArray, e25 = .returned (.string t27) ∧
 Calls Try.prog fn_op_Name #[.int .i64 b_2] w26 fun e28 w29 => ∃ t30 : ByteArray, e28 = .returned (.string t30) ∧
 J11 (t27.toList == t30.toList) w29)
 (J11 false w23))
 (J11 false w23))
 (J11 false w20))) ∧
 brB (decide (n8 < (0 : Int)))
 (J8 true w11)
 (brB (decide (n9 < (0 : Int)))
 (J8 true w11)
 (brB (decide (n12 < (0 : Int)))
 (J8 true w11)
 (brB (decide (n13 < (0 : Int)))
 (J8 true w11)
 (brB (decide (n8 > (4 : Int)))
 (J8 true w11)
 (brB (decide (n9 > (4 : Int)))
 (J8 true w11)
 (brB (decide (n12 > (4 : Int)))
 (J8 true w11)
 (brB (decide (n13 > (4 : Int)))
 (J8 true w11)
 (Calls Try.prog fn_op_Right #[.int .i64 a_1] w11 fun e14 w15 => ∃ b16 : Bool, e14 = .returned (.bool b16) ∧
 brB (!b16)
 (J8 ((wr ((wr ((wr (n8 + n9)) + n12)) + n13)) != (0 : Int)) w15)
 (J8 false w15))))))))))
def hollowaylaw6_OpBalance_an : An := ⟨[], [], [(6, [(65, .bool)]), (8, [(83, .bool)])]⟩
theorem hollowaylaw6_OpBalance_lift {a_1 : Int} {b_2 : Int} {w : World} {K : Value → World → Prop} (h : hollowaylaw6_OpBalance_sh a_1 b_2 w K) : Calls Try.prog fn_hollowaylaw6_OpBalance #[.int .i64 a_1, .int .i64 b_2] w fun e w' => ∃ v, e = .returned v ∧ K v w' :=
   lift_calls (A := hollowaylaw6_OpBalance_an) (c := bodyOf Try.f8) (args := [.int .i64 a_1, .int .i64 b_2]) orc orc_wide Try.func8 (by kernel_rfl) (by kernel_rfl) (Eq.mp (by kernel_rfl : hollowaylaw6_OpBalance_sh a_1 b_2 w K = wpc orc Try.f8.ntmps hollowaylaw6_OpBalance_an (bodyOf Try.f8) (argl 0 [.int .i64 a_1, .int .i64 b_2]) w (retQ orc Try.f8.results.toList K)) h)

-- holloway/hollowaylaw6.alive
def hollowaylaw6_alive_sh  (w : World) (K : Value → World → Prop) : Prop :=
 Calls Try.prog fn_op_Of #[.string (bs [100, 117, 112])] w fun e1 w2 => ∃ n3 : Int, ∃ b4 : Bool, e1 = .returned (.tuple #[.int .i64 n3, .bool b4]) ∧
 Calls Try.prog fn_op_Takes #[.int .i64 (10 : Int)] w2 fun e5 w6 => ∃ n7 : Int, ∃ n8 : Int, e5 = .returned (.tuple #[.int .i64 n7, .int .i64 n8]) ∧
 brB b4
 (brB (n3 == (6 : Int))
 (brB (n7 == (3 : Int))
 (brB (n8 == (0 : Int))
 (Calls Try.prog fn_op_Name #[.int .i64 (11 : Int)] w6 fun e9 w10 => ∃ t11 : ByteArray, e9 = .returned (.string t11) ∧
 brB (t11.toList == (bs [43]).toList)
 (Calls Try.prog fn_op_Right #[.int .i64 (47 : Int)] w10 fun e12 w13 => ∃ b14 : Bool, e12 = .returned (.bool b14) ∧
 brB b14
 (Calls Try.prog fn_op_Right #[.int .i64 (48 : Int)] w13 fun e15 w16 => ∃ b17 : Bool, e15 = .returned (.bool b17) ∧
 K (.bool (!b17)) w16)
 (K (.bool false) w13))
 (K (.bool false) w10))
 (K (.bool false) w6))
 (K (.bool false) w6))
 (K (.bool false) w6))
 (K (.bool false) w6)
def hollowaylaw6_alive_an : An := ⟨[], [], []⟩
theorem hollowaylaw6_alive_lift  {w : World} {K : Value → World → Prop} (h : hollowaylaw6_alive_sh  w K) : Calls Try.prog fn_hollowaylaw6_alive #[] w fun e w' => ∃ v, e = .returned v ∧ K v w' :=
   lift_calls (A := hollowaylaw6_alive_an) (c := bodyOf Try.f28) (args := []) orc orc_wide Try.func28 (by kernel_rfl) (by kernel_rfl) (Eq.mp (by kernel_rfl : hollowaylaw6_alive_sh  w K = wpc orc Try.f28.ntmps hollowaylaw6_alive_an (bodyOf Try.f28) (argl 0 []) w (retQ orc Try.f28.results.toList K)) h)

end Go.Proofs.Ytijoigpggphajaa
