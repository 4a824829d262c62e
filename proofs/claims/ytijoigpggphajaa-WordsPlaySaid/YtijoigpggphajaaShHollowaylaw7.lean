/- Functions of Hollowaylaw7, read without their frames; that each is enough. Printed by a program of mine (wip/lift/gen.py). -/
import Derived.Test.YtijoigpggphajaaOrc
set_option maxRecDepth 100000
namespace Go.Proofs.Ytijoigpggphajaa
open Go.RowKit

-- holloway/hollowaylaw7.WordsCase
def hollowaylaw7_WordsCase_sh (name1 : ByteArray) (other2 : ByteArray) (w : World) (K : Value → World → Prop) : Prop :=
 ∃ J3 : Bool → World → Prop, (∀ (b10 : Bool) (w9 : World), J3 b10 w9 →
 brB b10
 (Calls Try.prog fn_hollowaylaw7_alive #[] w9 fun e11 w12 => ∃ b13 : Bool, e11 = .returned (.bool b13) ∧
 K (.bool b13) w12)
 (Calls Try.prog fn_words_New #[] w9 fun e14 w15 => ∃ p16 : Option Addr, e14 = .returned (.pointer p16) ∧
 ∃ J7 : Bool → World → Prop, (∀ (b21 : Bool) (w20 : World), J7 b21 w20 →
 brB b21
 (K (.bool false) w20)
 (∃ s22 : Sl, ∃ w23 : World, (convert T_string T_sl_uint8 (.string name1)).run Try.prog w20 = .ok (s22.val) w23 ∧
 ∃ (I1 : Int → World → Prop) (μ1 : Int → World → Nat), I1 (0 : Int) w23 ∧ ∀ (i25 : Int) (w24 : World), I1 i25 w24 →
 brB (decide (i25 < (s22.len : Int)))
 (∃ J14 : World → Prop, (∀ (w46 : World), J14  w46 →
 I1 (wr (i25 + (1 : Int))) w46 ∧ μ1 (wr (i25 + (1 : Int))) w46 < μ1 i25 w24) ∧
 ∃ J15 : Bool → World → Prop, (∀ (b31 : Bool) (w30 : World), J15 b31 w30 →
 brB b31
 (∃ a32 : Addr, s22.ptr = some a32 ∧ 0 ≤ i25 ∧ i25 < (s22.len : Int) ∧
 ∃ n33 : Int, w30.cell? (Addr.add a32 (Int.toNat i25 * 1)) = some (.int .u8 n33) ∧
 ∃ a34 : Addr, s22.ptr = some a34 ∧ 0 ≤ i25 ∧ i25 < (s22.len : Int) ∧
 wrOk w30 (Addr.add a34 (Int.toNat i25 * 1)) 1 ∧ ∀ w35 : World, w35 = stW w30 (Addr.add a34 (Int.toNat i25 * 1)) 0 [.int .u8 (IntKind.wrap .u8 (n33 - (32 : Int)))] →
 J14  w35)
 (∃ J16 : Bool → World → Prop, (∀ (b41 : Bool) (w40 : World), J16 b41 w40 →
 brB b41
 (∃ a42 : Addr, s22.ptr = some a42 ∧ 0 ≤ i25 ∧ i25 < (s22.len : Int) ∧
 ∃ n43 : Int, w40.cell? (Addr.add a42 (Int.toNat i25 * 1)) = some (.int .u8 n43) ∧
 ∃ a44 : Addr, s22.ptr = some a44 ∧ 0 ≤ i25 ∧ i25 < (s22.len : Int) ∧
 wrOk w40 (Addr.add a44 (Int.toNat i25 * 1)) 1 ∧ ∀ w45 : World, w45 = stW w40 (Addr.add a44 (Int.toNat i25 * 1)) 0 [.int .u8 (IntKind.wrap .u8 (n43 + (32 : Int)))] →
 J14  w45)
 (J14  w40)) ∧
 ∃ a36 : Addr, s22.ptr = some a36 ∧ 0 ≤ i25 ∧ i25 < (s22.len : Int) ∧
 ∃ n37 : Int, w30.cell? (Addr.add a36 (Int.toNat i25 * 1)) = some (.int .u8 n37) ∧
 brB (decide (n37 ≥ (65 : Int)))
 (∃ a38 : Addr, s22.ptr = some a38 ∧ 0 ≤ i25 ∧ i25 < (s22.len : Int) ∧
 ∃ n39 : Int, w30.cell? (Addr.add a38 (Int.toNat i25 * 1)) = some (.int .u8 n39) ∧
 J16 (decide (n39 ≤ (90 : Int))) w30)
 (J16 false w30))) ∧
 ∃ a26 : Addr, s22.ptr = some a26 ∧ 0 ≤ i25 ∧ i25 < (s22.len : Int) ∧
 ∃ n27 : Int, w24.cell? (Addr.add a26 (Int.toNat i25 * 1)) = some (.int .u8 n27) ∧
 brB (decide (n27 ≥ (97 : Int)))
 (∃ a28 : Addr, s22.ptr = some a28 ∧ 0 ≤ i25 ∧ i25 < (s22.len : Int) ∧
 ∃ n29 : Int, w24.cell? (Addr.add a28 (Int.toNat i25 * 1)) = some (.int .u8 n29) ∧
 J15 (decide (n29 ≤ (122 : Int))) w24)
 (J15 false w24))
 (∃ t47 : ByteArray, ∃ w48 : World, (convert T_sl_uint8 T_string (s22.val)).run Try.prog w24 = .ok (.string t47) w48 ∧
 Calls Try.prog fn_words_Words_Find #[.pointer p16, .string t47] w48 fun e49 w50 => ∃ t_Name51 : ByteArray, ∃ n_Xt52 : Int, ∃ n_Op53 : Int, ∃ b_Immediate54 : Bool, ∃ b55 : Bool, e49 = .returned (.tuple #[.agg #[.string t_Name51, .int .i64 n_Xt52, .int .i64 n_Op53, .bool b_Immediate54], .bool b55]) ∧
 ∀ (b56 : Nat) (w57 : World), b56 = w50.heap.size → w57 = World.alloc w50 (.cells #[.string (bs []), .int .i64 (0 : Int), .int .i64 (0 : Int), .bool false] T_api_Word) →
 wrOk w57 ⟨b56, 0, none⟩ 4 ∧ ∀ w58 : World, w58 = stW w57 ⟨b56, 0, none⟩ 0 [.string t_Name51, .int .i64 n_Xt52, .int .i64 n_Op53, .bool b_Immediate54] →
 Calls Try.prog fn_words_Words_Find #[.pointer p16, .string other2] w58 fun e59 w60 => ∃ t_Name61 : ByteArray, ∃ n_Xt62 : Int, ∃ n_Op63 : Int, ∃ b_Immediate64 : Bool, ∃ b65 : Bool, e59 = .returned (.tuple #[.agg #[.string t_Name61, .int .i64 n_Xt62, .int .i64 n_Op63, .bool b_Immediate64], .bool b65]) ∧
 ∀ (b66 : Nat) (w67 : World), b66 = w60.heap.size → w67 = World.alloc w60 (.cells #[.string (bs []), .int .i64 (0 : Int), .int .i64 (0 : Int), .bool false] T_api_Word) →
 wrOk w67 ⟨b66, 0, none⟩ 4 ∧ ∀ w68 : World, w68 = stW w67 ⟨b66, 0, none⟩ 0 [.string t_Name61, .int .i64 n_Xt62, .int .i64 n_Op63, .bool b_Immediate64] →
 ∀ w69 : World, w69 = World.drew w68 →
 ∃ S70 : World → Prop, S70 w69 ∧
 brB b55
 (∃ n71 : Int, held S70 ⟨b56, 1, none⟩ (.int .i64 n71) ∧
 brB (n71 == (777 : Int))
 (∃ t72 : ByteArray, ∃ w73 : World, (convert T_sl_uint8 T_string (s22.val)).run Try.prog w69 = .ok (.string t72) w73 ∧
 S70 w73 ∧
 Calls Try.prog fn_words_Same #[.string name1, .string t72] w73 fun e74 w75 => ∃ b76 : Bool, e74 = .returned (.bool b76) ∧
 S70 w75 ∧
 brB b76
 (brB b65
 (∃ n77 : Int, held S70 ⟨b66, 1, none⟩ (.int .i64 n77) ∧
 Calls Try.prog fn_words_Same #[.string name1, .string other2] w75 fun e78 w79 => ∃ b80 : Bool, e78 = .returned (.bool b80) ∧
 S70 w79 ∧
 K (.bool ((n77 == (777 : Int)) == b80)) w79)
 (Calls Try.prog fn_words_Same #[.string name1, .string other2] w75 fun e81 w82 => ∃ b83 : Bool, e81 = .returned (.bool b83) ∧
 S70 w82 ∧
 K (.bool (false == b83)) w82))
 (K (.bool false) w75))
 (K (.bool false) w69))
 (K (.bool false) w69)))) ∧
 brB (Option.isNone p16)
 (J7 true w15)
 (Calls Try.prog fn_words_Words_Add #[.pointer p16, .agg #[.string name1, .int .i64 (777 : Int), .int .i64 (-1 : Int), .bool false]] w15 fun e17 w18 => ∃ n19 : Int, e17 = .returned (.int .i64 n19) ∧
 J7 (n19 != (0 : Int)) w18))) ∧
 Calls Try.prog fn_words_Right #[.string name1] w fun e3 w4 => ∃ b5 : Bool, e3 = .returned (.bool b5) ∧
 brB (!b5)
 (J3 true w4)
 (brB (decide ((other2.size : Int) > (40 : Int)))
 (J3 true w4)
 (Calls Try.prog fn_hollowaylaw7_alive #[] w4 fun e6 w7 => ∃ b8 : Bool, e6 = .returned (.bool b8) ∧
 J3 (!b8) w7))
def hollowaylaw7_WordsCase_an : An := ⟨[(8, [(7, .int .i64)])], [(16, (22, .st 0 (.st 1 (.st 2 (.st 3 (.st 4 (.st 5 (.st 6 (.st 7 (.st 8 (.ef 9 (.ef 10 (.st 11 (.st 12 (.st 13 (.st 14 (.st 15 (.st 16 (.st 17 (.st 18 (.st 19 (.st 20 (.ef 21 .done))))))))))))))))))))), 1))], [(2, [(23, .bool)]), (5, [(34, .bool)]), (13, [(72, .bool)]), (11, [(54, .bool)]), (9, [])]⟩
theorem hollowaylaw7_WordsCase_lift {name1 : ByteArray} {other2 : ByteArray} {w : World} {K : Value → World → Prop} (h : hollowaylaw7_WordsCase_sh name1 other2 w K) : Calls Try.prog fn_hollowaylaw7_WordsCase #[.string name1, .string other2] w fun e w' => ∃ v, e = .returned v ∧ K v w' :=
   lift_calls (A := hollowaylaw7_WordsCase_an) (c := bodyOf Try.f9) (args := [.string name1, .string other2]) orc orc_wide Try.func9 (by kernel_rfl) (by kernel_rfl) (Eq.mp (by kernel_rfl : hollowaylaw7_WordsCase_sh name1 other2 w K = wpc orc Try.f9.ntmps hollowaylaw7_WordsCase_an (bodyOf Try.f9) (argl 0 [.string name1, .string other2]) w (retQ orc Try.f9.results.toList K)) h)

-- holloway/hollowaylaw7.WordsMany
def hollowaylaw7_WordsMany_sh (n_1 : Int) (name2 : ByteArray) (w : World) (K : Value → World → Prop) : Prop :=
 ∃ J3 : Bool → World → Prop, (∀ (b10 : Bool) (w9 : World), J3 b10 w9 →
 brB b10
 (Calls Try.prog fn_hollowaylaw7_alive #[] w9 fun e11 w12 => ∃ b13 : Bool, e11 = .returned (.bool b13) ∧
 K (.bool b13) w12)
 (Calls Try.prog fn_words_New #[] w9 fun e14 w15 => ∃ p16 : Option Addr, e14 = .returned (.pointer p16) ∧
 brB (Option.isNone p16)
 (K (.bool false) w15)
 (Calls Try.prog fn_words_Words_Find #[.pointer p16, .string name2] w15 fun e17 w18 => ∃ t_Name19 : ByteArray, ∃ n_Xt20 : Int, ∃ n_Op21 : Int, ∃ b_Immediate22 : Bool, ∃ b23 : Bool, e17 = .returned (.tuple #[.agg #[.string t_Name19, .int .i64 n_Xt20, .int .i64 n_Op21, .bool b_Immediate22], .bool b23]) ∧
 ∀ (b24 : Nat) (w25 : World), b24 = w18.heap.size → w25 = World.alloc w18 (.cells #[.string (bs []), .int .i64 (0 : Int), .int .i64 (0 : Int), .bool false] T_api_Word) →
 wrOk w25 ⟨b24, 0, none⟩ 4 ∧ ∀ w26 : World, w26 = stW w25 ⟨b24, 0, none⟩ 0 [.string t_Name19, .int .i64 n_Xt20, .int .i64 n_Op21, .bool b_Immediate22] →
 Calls Try.prog fn_words_Words_Len #[.pointer p16] w26 fun e27 w28 => ∃ n29 : Int, e27 = .returned (.int .i64 n29) ∧
 ∃ (I1 : Int → World → Prop) (μ1 : Int → World → Nat), I1 (0 : Int) w28 ∧ ∀ (i31 : Int) (w30 : World), I1 i31 w30 →
 brB (decide (i31 < n_1))
 (Calls Try.prog fn_words_Words_Add #[.pointer p16, .agg #[.string name2, .int .i64 (wr ((500 : Int) + i31)), .int .i64 (0 : Int), .bool false]] w30 fun e32 w33 => ∃ n34 : Int, e32 = .returned (.int .i64 n34) ∧
 Calls Try.prog fn_words_Words_Find #[.pointer p16, .string name2] w33 fun e35 w36 => ∃ t_Name37 : ByteArray, ∃ n_Xt38 : Int, ∃ n_Op39 : Int, ∃ b_Immediate40 : Bool, ∃ b41 : Bool, e35 = .returned (.tuple #[.agg #[.string t_Name37, .int .i64 n_Xt38, .int .i64 n_Op39, .bool b_Immediate40], .bool b41]) ∧
 ∀ (b42 : Nat) (w43 : World), b42 = w36.heap.size → w43 = World.alloc w36 (.cells #[.string (bs []), .int .i64 (0 : Int), .int .i64 (0 : Int), .bool false] T_api_Word) →
 wrOk w43 ⟨b42, 0, none⟩ 4 ∧ ∀ w44 : World, w44 = stW w43 ⟨b42, 0, none⟩ 0 [.string t_Name37, .int .i64 n_Xt38, .int .i64 n_Op39, .bool b_Immediate40] →
 ∃ J18 : Bool → World → Prop, (∀ (b47 : Bool) (w46 : World), J18 b47 w46 →
 brB b47
 (K (.bool false) w46)
 (I1 (wr (i31 + (1 : Int))) w46 ∧ μ1 (wr (i31 + (1 : Int))) w46 < μ1 i31 w30)) ∧
 brB (decide ((wr (n29 + i31)) < (200 : Int)))
 (brB (n34 != (0 : Int))
 (J18 true w44)
 (brB (!b41)
 (J18 true w44)
 (∃ n45 : Int, w44.cell? ⟨b42, 1, none⟩ = some (.int .i64 n45) ∧
 brB (n45 != (wr ((500 : Int) + i31)))
 (J18 true w44)
 (brB (decide ((wr (n29 + i31)) ≥ (200 : Int)))
 (J18 (n34 != (-8 : Int)) w44)
 (J18 false w44)))))
 (brB (decide ((wr (n29 + i31)) ≥ (200 : Int)))
 (J18 (n34 != (-8 : Int)) w44)
 (J18 false w44)))
 (∃ J21 : Bool → World → Prop, (∀ (b55 : Bool) (w54 : World), J21 b55 w54 →
 brB b55
 (K (.bool false) w54)
 (Calls Try.prog fn_words_Words_Find #[.pointer p16, .string name2] w54 fun e56 w57 => ∃ t_Name58 : ByteArray, ∃ n_Xt59 : Int, ∃ n_Op60 : Int, ∃ b_Immediate61 : Bool, ∃ b62 : Bool, e56 = .returned (.tuple #[.agg #[.string t_Name58, .int .i64 n_Xt59, .int .i64 n_Op60, .bool b_Immediate61], .bool b62]) ∧
 ∀ (b63 : Nat) (w64 : World), b63 = w57.heap.size → w64 = World.alloc w57 (.cells #[.string (bs []), .int .i64 (0 : Int), .int .i64 (0 : Int), .bool false] T_api_Word) →
 wrOk w64 ⟨b63, 0, none⟩ 4 ∧ ∀ w65 : World, w65 = stW w64 ⟨b63, 0, none⟩ 0 [.string t_Name58, .int .i64 n_Xt59, .int .i64 n_Op60, .bool b_Immediate61] →
 brB (b62 == b23)
 (∃ t_Name66 : ByteArray, ∃ n_Xt67 : Int, ∃ n_Op68 : Int, ∃ b_Immediate69 : Bool, w65.cell? ⟨b63, 0, none⟩ = some (.string t_Name66) ∧ w65.cell? ⟨b63, 1, none⟩ = some (.int .i64 n_Xt67) ∧ w65.cell? ⟨b63, 2, none⟩ = some (.int .i64 n_Op68) ∧ w65.cell? ⟨b63, 3, none⟩ = some (.bool b_Immediate69) ∧
 ∃ t_Name70 : ByteArray, ∃ n_Xt71 : Int, ∃ n_Op72 : Int, ∃ b_Immediate73 : Bool, w65.cell? ⟨b24, 0, none⟩ = some (.string t_Name70) ∧ w65.cell? ⟨b24, 1, none⟩ = some (.int .i64 n_Xt71) ∧ w65.cell? ⟨b24, 2, none⟩ = some (.int .i64 n_Op72) ∧ w65.cell? ⟨b24, 3, none⟩ = some (.bool b_Immediate73) ∧
 ∃ b74 : Bool, ∃ w75 : World, ((do eqGuard .eql T_api_Word (.tmp 111) (.tmp 112) (.agg #[.string t_Name66, .int .i64 n_Xt67, .int .i64 n_Op68, .bool b_Immediate69]) (.agg #[.string t_Name70, .int .i64 n_Xt71, .int .i64 n_Op72, .bool b_Immediate73]); binOp .eql T_api_Word (.agg #[.string t_Name66, .int .i64 n_Xt67, .int .i64 n_Op68, .bool b_Immediate69]) (.agg #[.string t_Name70, .int .i64 n_Xt71, .int .i64 n_Op72, .bool b_Immediate73]) : Sem Value)).run Try.prog w65 = .ok (.bool b74) w75 ∧
 K (.bool b74) w75)
 (K (.bool false) w65))) ∧
 Calls Try.prog fn_words_Words_Len #[.pointer p16] w30 fun e48 w49 => ∃ n50 : Int, e48 = .returned (.int .i64 n50) ∧
 brB (n50 != (imin (wr (n29 + n_1)) (200 : Int)))
 (J21 true w49)
 (Calls Try.prog fn_words_Words_Cut #[.pointer p16, .int .i64 n29] w49 fun e51 w52 => ∃ b53 : Bool, e51 = .returned (.bool b53) ∧
 J21 (!b53) w52))))) ∧
 brB (decide (n_1 < (0 : Int)))
 (J3 true w)
 (brB (decide (n_1 > (300 : Int)))
 (J3 true w)
 (Calls Try.prog fn_hollowayref1_Word #[.string name2] w fun e3 w4 => ∃ b5 : Bool, e3 = .returned (.bool b5) ∧
 brB (!b5)
 (J3 true w4)
 (Calls Try.prog fn_hollowaylaw7_alive #[] w4 fun e6 w7 => ∃ b8 : Bool, e6 = .returned (.bool b8) ∧
 J3 (!b8) w7)))
def hollowaylaw7_WordsMany_an : An := ⟨[(9, [(9, .int .i64)])], [], [(2, [(29, .bool)]), (14, [(87, .bool)]), (16, [(100, .bool)])]⟩
theorem hollowaylaw7_WordsMany_lift {n_1 : Int} {name2 : ByteArray} {w : World} {K : Value → World → Prop} (h : hollowaylaw7_WordsMany_sh n_1 name2 w K) : Calls Try.prog fn_hollowaylaw7_WordsMany #[.int .i64 n_1, .string name2] w fun e w' => ∃ v, e = .returned v ∧ K v w' :=
   lift_calls (A := hollowaylaw7_WordsMany_an) (c := bodyOf Try.f10) (args := [.int .i64 n_1, .string name2]) orc orc_wide Try.func10 (by kernel_rfl) (by kernel_rfl) (Eq.mp (by kernel_rfl : hollowaylaw7_WordsMany_sh n_1 name2 w K = wpc orc Try.f10.ntmps hollowaylaw7_WordsMany_an (bodyOf Try.f10) (argl 0 [.int .i64 n_1, .string name2]) w (retQ orc Try.f10.results.toList K)) h)

-- holloway/hollowaylaw7.WordsPlay
def hollowaylaw7_WordsPlay_sh (l_1 : Sl) (ask2 : ByteArray) (other3 : ByteArray) (w : World) (K : Value → World → Prop) : Prop :=
 ∃ J3 : Bool → World → Prop, (∀ (b8 : Bool) (w7 : World), J3 b8 w7 →
 brB b8
 (Calls Try.prog fn_hollowaylaw7_alive #[] w7 fun e9 w10 => ∃ b11 : Bool, e9 = .returned (.bool b11) ∧
 K (.bool b11) w10)
 (Calls Try.prog fn_words_New #[] w7 fun e12 w13 => ∃ p14 : Option Addr, e12 = .returned (.pointer p14) ∧
 Calls Try.prog fn_hollowayref1_Words #[] w13 fun e15 w16 => ∃ s17 : Sl, e15 = .returned (s17.val) ∧
 brB (Option.isNone p14)
 (K (.bool false) w16)
 (∀ (b18 : Nat) (w19 : World), b18 = w16.heap.size → w19 = World.alloc w16 (.cells #[.slice none 0 0, .slice none 0 0, .slice none 0 0, .slice none 0 0, .slice none 0 0, .slice none 0 0, .slice none 0 0, .slice none 0 0, .slice none 0 0, .slice none 0 0, .slice none 0 0, .slice none 0 0] T_hollowaybook_Book) →
 ∃ (I1 : (Option Addr) → Sl → Int → World → Prop) (μ1 : (Option Addr) → Sl → Int → World → Nat), I1 p14 s17 (0 : Int) w19 ∧ ∀ (w58 : Option Addr) (want38 : Sl) (i21 : Int) (w20 : World), I1 w58 want38 i21 w20 →
 brB (decide (i21 < (l_1.len : Int)))
 (∃ a22 : Addr, l_1.ptr = some a22 ∧ 0 ≤ i21 ∧ i21 < (l_1.len : Int) ∧
 ∃ n_Kind23 : Int, ∃ n_N24 : Int, ∃ t_X_Name25 : ByteArray, ∃ n_X_Xt26 : Int, ∃ n_X_Op27 : Int, ∃ b_X_Immediate28 : Bool, w20.cell? (Addr.add a22 (Int.toNat i21 * 6)) = some (.int .i64 n_Kind23) ∧ w20.cell? (Addr.add (Addr.add a22 (Int.toNat i21 * 6)) 1) = some (.int .i64 n_N24) ∧ w20.cell? (Addr.add (Addr.add a22 (Int.toNat i21 * 6)) 2) = some (.string t_X_Name25) ∧ w20.cell? (Addr.add (Addr.add a22 (Int.toNat i21 * 6)) 3) = some (.int .i64 n_X_Xt26) ∧ w20.cell? (Addr.add (Addr.add a22 (Int.toNat i21 * 6)) 4) = some (.int .i64 n_X_Op27) ∧ w20.cell? (Addr.add (Addr.add a22 (Int.toNat i21 * 6)) 5) = some (.bool b_X_Immediate28) ∧
 ∀ (b29 : Nat) (w30 : World), b29 = w20.heap.size → w30 = World.alloc w20 (.cells #[.int .i64 (0 : Int), .int .i64 (0 : Int), .string (bs []), .int .i64 (0 : Int), .int .i64 (0 : Int), .bool false] T_hollowaylaw7_Op) →
 wrOk w30 ⟨b29, 0, none⟩ 6 ∧ ∀ w31 : World, w31 = stW w30 ⟨b29, 0, none⟩ 0 [.int .i64 n_Kind23, .int .i64 n_N24, .string t_X_Name25, .int .i64 n_X_Xt26, .int .i64 n_X_Op27, .bool b_X_Immediate28] →
 ∃ t32 : ByteArray, w31.cell? ⟨b29, 2, none⟩ = some (.string t32) ∧
 brB (decide ((t32.size : Int) > (100 : Int)))
 (K (.bool true) w31)
 (∃ J21 : (Option Addr) → Sl → Bool → World → Prop, (∀ (w99 : Option Addr) (want115 : Sl) (ok121 : Bool) (w98 : World), J21 w99 want115 ok121 w98 →
 Calls Try.prog fn_words_Words_All #[.pointer w99] w98 fun e100 w101 => ∃ s102 : Sl, e100 = .returned (s102.val) ∧
 Calls Try.prog fn_hollowaybook_Book_Words #[.pointer (some ⟨b18, 0, none⟩), s102.val] w101 fun e103 w104 => e103 = .returned (.tuple #[]) ∧
 Calls Try.prog fn_words_Words_Find #[.pointer w99, .string ask2] w104 fun e105 w106 => ∃ t_Name107 : ByteArray, ∃ n_Xt108 : Int, ∃ n_Op109 : Int, ∃ b_Immediate110 : Bool, ∃ b111 : Bool, e105 = .returned (.tuple #[.agg #[.string t_Name107, .int .i64 n_Xt108, .int .i64 n_Op109, .bool b_Immediate110], .bool b111]) ∧
 ∀ (b112 : Nat) (w113 : World), b112 = w106.heap.size → w113 = World.alloc w106 (.cells #[.string (bs []), .int .i64 (0 : Int), .int .i64 (0 : Int), .bool false] T_api_Word) →
 wrOk w113 ⟨b112, 0, none⟩ 4 ∧ ∀ w114 : World, w114 = stW w113 ⟨b112, 0, none⟩ 0 [.string t_Name107, .int .i64 n_Xt108, .int .i64 n_Op109, .bool b_Immediate110] →
 Calls Try.prog fn_hollowayref1_Find #[want115.val, .string ask2] w114 fun e116 w117 => ∃ n118 : Int, e116 = .returned (.int .i64 n118) ∧
 ∃ J47 : Bool → World → Prop, (∀ (b152 : Bool) (w151 : World), J47 b152 w151 →
 brB b152
 (K (.bool false) w151)
 (I1 w99 want115 (wr (i21 + (1 : Int))) w151 ∧ μ1 w99 want115 (wr (i21 + (1 : Int))) w151 < μ1 w58 want38 i21 w20)) ∧
 ∀ w119 : World, w119 = World.drew w117 →
 ∃ S120 : World → Prop, S120 w119 ∧
 brB (!ok121)
 (J47 true w119)
 (Calls Try.prog fn_hollowaybook_SameWords #[s102.val, want115.val] w119 fun e122 w123 => ∃ b124 : Bool, e122 = .returned (.bool b124) ∧
 S120 w123 ∧
 brB (!b124)
 (J47 true w123)
 (Calls Try.prog fn_words_Words_Len #[.pointer w99] w123 fun e125 w126 => ∃ n127 : Int, e125 = .returned (.int .i64 n127) ∧
 S120 w126 ∧
 brB (n127 != (want115.len : Int))
 (J47 true w126)
 (brB (!(b111 == (decide (n118 ≥ (0 : Int)))))
 (J47 true w126)
 (brB b111
 (∃ t_Name128 : ByteArray, ∃ n_Xt129 : Int, ∃ n_Op130 : Int, ∃ b_Immediate131 : Bool, held S120 ⟨b112, 0, none⟩ (.string t_Name128) ∧ held S120 ⟨b112, 1, none⟩ (.int .i64 n_Xt129) ∧ held S120 ⟨b112, 2, none⟩ (.int .i64 n_Op130) ∧ held S120 ⟨b112, 3, none⟩ (.bool b_Immediate131) ∧
 ∃ a132 : Addr, want115.ptr = some a132 ∧ 0 ≤ n118 ∧ n118 < (want115.len : Int) ∧
 ∃ t_Name133 : ByteArray, ∃ n_Xt134 : Int, ∃ n_Op135 : Int, ∃ b_Immediate136 : Bool, held S120 (Addr.add a132 (Int.toNat n118 * 4)) (.string t_Name133) ∧ held S120 (Addr.add (Addr.add a132 (Int.toNat n118 * 4)) 1) (.int .i64 n_Xt134) ∧ held S120 (Addr.add (Addr.add a132 (Int.toNat n118 * 4)) 2) (.int .i64 n_Op135) ∧ held S120 (Addr.add (Addr.add a132 (Int.toNat n118 * 4)) 3) (.bool b_Immediate136) ∧
 ∃ b137 : Bool, ∃ w138 : World, ((do eqGuard .neq T_api_Word (.tmp 179) (.tmp 183) (.agg #[.string t_Name128, .int .i64 n_Xt129, .int .i64 n_Op130, .bool b_Immediate131]) (.agg #[.string t_Name133, .int .i64 n_Xt134, .int .i64 n_Op135, .bool b_Immediate136]); binOp .neq T_api_Word (.agg #[.string t_Name128, .int .i64 n_Xt129, .int .i64 n_Op130, .bool b_Immediate131]) (.agg #[.string t_Name133, .int .i64 n_Xt134, .int .i64 n_Op135, .bool b_Immediate136]) : Sem Value)).run Try.prog w126 = .ok (.bool b137) w138 ∧
 S120 w138 ∧
 brB b137
 (J47 true w138)
 (brB (!b111)
 (∃ t_Name139 : ByteArray, ∃ n_Xt140 : Int, ∃ n_Op141 : Int, ∃ b_Immediate142 : Bool, held S120 ⟨b112, 0, none⟩ (.string t_Name139) ∧ held S120 ⟨b112, 1, none⟩ (.int .i64 n_Xt140) ∧ held S120 ⟨b112, 2, none⟩ (.int .i64 n_Op141) ∧ held S120 ⟨b112, 3, none⟩ (.bool b_Immediate142) ∧
 S120 w138 ∧
 ∃ b143 : Bool, ∃ w144 : World, ((do eqGuard .neq T_api_Word (.tmp 191) (.tmp 192) (.agg #[.string t_Name139, .int .i64 n_Xt140, .int .i64 n_Op141, .bool b_Immediate142]) (.agg #[.string (bs []), .int .i64 (0 : Int), .int .i64 (0 : Int), .bool false]); binOp .neq T_api_Word (.agg #[.string t_Name139, .int .i64 n_Xt140, .int .i64 n_Op141, .bool b_Immediate142]) (.agg #[.string (bs []), .int .i64 (0 : Int), .int .i64 (0 : Int), .bool false]) : Sem Value)).run Try.prog w138 = .ok (.bool b143) w144 ∧
 J47 b143 w144)
 (J47 false w138)))
 (brB (!b111)
 (∃ t_Name145 : ByteArray, ∃ n_Xt146 : Int, ∃ n_Op147 : Int, ∃ b_Immediate148 : Bool, held S120 ⟨b112, 0, none⟩ (.string t_Name145) ∧ held S120 ⟨b112, 1, none⟩ (.int .i64 n_Xt146) ∧ held S120 ⟨b112, 2, none⟩ (.int .i64 n_Op147) ∧ held S120 ⟨b112, 3, none⟩ (.bool b_Immediate148) ∧
 S120 w126 ∧
 ∃ b149 : Bool, ∃ w150 : World, ((do eqGuard .neq T_api_Word (.tmp 191) (.tmp 192) (.agg #[.string t_Name145, .int .i64 n_Xt146, .int .i64 n_Op147, .bool b_Immediate148]) (.agg #[.string (bs []), .int .i64 (0 : Int), .int .i64 (0 : Int), .bool false]); binOp .neq T_api_Word (.agg #[.string t_Name145, .int .i64 n_Xt146, .int .i64 n_Op147, .bool b_Immediate148]) (.agg #[.string (bs []), .int .i64 (0 : Int), .int .i64 (0 : Int), .bool false]) : Sem Value)).run Try.prog w126 = .ok (.bool b149) w150 ∧
 J47 b149 w150)
 (J47 false w126))))))) ∧
 ∃ n33 : Int, w31.cell? ⟨b29, 0, none⟩ = some (.int .i64 n33) ∧
 brB (n33 == (1 : Int))
 (∃ J25 : Sl → Int → World → Prop, (∀ (want198 : Sl) (c66 : Int) (w57 : World), J25 want198 c66 w57 →
 ∃ t_Name59 : ByteArray, ∃ n_Xt60 : Int, ∃ n_Op61 : Int, ∃ b_Immediate62 : Bool, w57.cell? ⟨b29, 2, none⟩ = some (.string t_Name59) ∧ w57.cell? ⟨b29, 3, none⟩ = some (.int .i64 n_Xt60) ∧ w57.cell? ⟨b29, 4, none⟩ = some (.int .i64 n_Op61) ∧ w57.cell? ⟨b29, 5, none⟩ = some (.bool b_Immediate62) ∧
 Calls Try.prog fn_words_Words_Add #[.pointer w58, .agg #[.string t_Name59, .int .i64 n_Xt60, .int .i64 n_Op61, .bool b_Immediate62]] w57 fun e63 w64 => ∃ n65 : Int, e63 = .returned (.int .i64 n65) ∧
 J21 w58 want198 (n65 == c66) w64) ∧
 ∃ t34 : ByteArray, w31.cell? ⟨b29, 2, none⟩ = some (.string t34) ∧
 Calls Try.prog fn_hollowayref1_Word #[.string t34] w31 fun e35 w36 => ∃ b37 : Bool, e35 = .returned (.bool b37) ∧
 brB (!b37)
 (J25 want38 (-16 : Int) w36)
 (brB (decide ((want38.len : Int) ≥ (200 : Int)))
 (J25 want38 (-8 : Int) w36)
 (∀ w39 : World, w39 = World.drew w36 →
 ∃ S40 : World → Prop, S40 w39 ∧
 ∃ t_Name41 : ByteArray, ∃ n_Xt42 : Int, ∃ n_Op43 : Int, ∃ b_Immediate44 : Bool, held S40 ⟨b29, 2, none⟩ (.string t_Name41) ∧ held S40 ⟨b29, 3, none⟩ (.int .i64 n_Xt42) ∧ held S40 ⟨b29, 4, none⟩ (.int .i64 n_Op43) ∧ held S40 ⟨b29, 5, none⟩ (.bool b_Immediate44) ∧
 (∃ s45 : Sl, ∃ w46 : World, (Builtin.append_ #[T_sl_api_Word, T_sl_api_Word] T_sl_api_Word #[.slice none 0 0, want38.val]).run Try.prog w39 = .ok (s45.val) w46 ∧
 S40 w46 ∧
 ∀ (b47 : Nat) (w48 : World), b47 = w46.heap.size → w48 = World.alloc w46 (.cells #[.string t_Name41, .int .i64 n_Xt42, .int .i64 n_Op43, .bool b_Immediate44] T_api_Word) →
 S40 w48 ∧
 ∃ s49 : Sl, ∃ w50 : World, (Builtin.append_ #[T_sl_api_Word, T_sl_api_Word] T_sl_api_Word #[s45.val, .slice (some ⟨b47, 0, none⟩) 1 1]).run Try.prog w48 = .ok (s49.val) w50 ∧
 J25 s49 (0 : Int) w50) ∧
 (∀ (b51 : Nat) (w52 : World), b51 = w39.heap.size → w52 = World.alloc w39 (.cells #[.string t_Name41, .int .i64 n_Xt42, .int .i64 n_Op43, .bool b_Immediate44] T_api_Word) →
 S40 w52 ∧
 ∃ s53 : Sl, ∃ w54 : World, (Builtin.append_ #[T_sl_api_Word, T_sl_api_Word] T_sl_api_Word #[.slice none 0 0, want38.val]).run Try.prog w52 = .ok (s53.val) w54 ∧
 S40 w54 ∧
 ∃ s55 : Sl, ∃ w56 : World, (Builtin.append_ #[T_sl_api_Word, T_sl_api_Word] T_sl_api_Word #[s53.val, .slice (some ⟨b51, 0, none⟩) 1 1]).run Try.prog w54 = .ok (s55.val) w56 ∧
 J25 s55 (0 : Int) w56))))
 (brB (n33 == (2 : Int))
 (∃ J29 : Bool → World → Prop, (∀ (may74 : Bool) (w69 : World), J29 may74 w69 →
 ∃ n70 : Int, w69.cell? ⟨b29, 1, none⟩ = some (.int .i64 n70) ∧
 Calls Try.prog fn_words_Words_Cut #[.pointer w58, .int .i64 n70] w69 fun e71 w72 => ∃ b73 : Bool, e71 = .returned (.bool b73) ∧
 brB may74
 (∃ n75 : Int, w72.cell? ⟨b29, 1, none⟩ = some (.int .i64 n75) ∧
 0 ≤ n75 ∧ n75 ≤ (want38.cap : Int) ∧ ∀ s76 : Sl, s76 = Sl.sub want38.ptr want38.cap 0 (Int.toNat n75) 4 →
 ∃ s77 : Sl, ∃ w78 : World, (Builtin.append_ #[T_sl_api_Word, T_sl_api_Word] T_sl_api_Word #[.slice none 0 0, s76.val]).run Try.prog w72 = .ok (s77.val) w78 ∧
 J21 w58 s77 (b73 == may74) w78)
 (J21 w58 want38 (b73 == may74) w72)) ∧
 ∃ n67 : Int, w31.cell? ⟨b29, 1, none⟩ = some (.int .i64 n67) ∧
 brB (decide (n67 ≥ (0 : Int)))
 (∃ n68 : Int, w31.cell? ⟨b29, 1, none⟩ = some (.int .i64 n68) ∧
 J29 (decide (n68 ≤ (want38.len : Int))) w31)
 (J29 false w31))
 (brB (n33 == (3 : Int))
 (Calls Try.prog fn_words_Words_Immediate #[.pointer w58] w31 fun e79 w80 => ∃ b81 : Bool, e79 = .returned (.bool b81) ∧
 brB (decide ((want38.len : Int) > (0 : Int)))
 (∃ s82 : Sl, ∃ w83 : World, (Builtin.append_ #[T_sl_api_Word, T_sl_api_Word] T_sl_api_Word #[.slice none 0 0, want38.val]).run Try.prog w80 = .ok (s82.val) w83 ∧
 ∃ a84 : Addr, s82.ptr = some a84 ∧ 0 ≤ (wr ((s82.len : Int) - (1 : Int))) ∧ (wr ((s82.len : Int) - (1 : Int))) < (s82.len : Int) ∧
 wrOk w83 (Addr.add (Addr.add a84 (Int.toNat (wr ((s82.len : Int) - (1 : Int))) * 4)) 3) 1 ∧ ∀ w85 : World, w85 = stW w83 (Addr.add (Addr.add a84 (Int.toNat (wr ((s82.len : Int) - (1 : Int))) * 4)) 3) 0 [.bool true] →
 J21 w58 s82 (b81 == (decide ((want38.len : Int) > (0 : Int)))) w85)
 (J21 w58 want38 (b81 == (decide ((want38.len : Int) > (0 : Int)))) w80))
 (Calls Try.prog fn_words_Words_Copy #[.pointer w58] w31 fun e86 w87 => ∃ p88 : Option Addr, e86 = .returned (.pointer p88) ∧
 brB (Option.isNone p88)
 (K (.bool false) w87)
 (Calls Try.prog fn_words_Words_Add #[.pointer w58, .agg #[.string (bs [97, 110, 111, 116, 104, 101, 114]), .int .i64 (0 : Int), .int .i64 (0 : Int), .bool false]] w87 fun e89 w90 => ∃ n91 : Int, e89 = .returned (.int .i64 n91) ∧
 Calls Try.prog fn_words_Words_Immediate #[.pointer w58] w90 fun e92 w93 => ∃ b94 : Bool, e92 = .returned (.bool b94) ∧
 Calls Try.prog fn_words_Words_Cut #[.pointer w58, .int .i64 (3 : Int)] w93 fun e95 w96 => ∃ b97 : Bool, e95 = .returned (.bool b97) ∧
 J21 p88 want38 true w96))))))
 (Calls Try.prog fn_words_Words_Find #[.pointer none, .string (bs [100, 117, 112])] w20 fun e153 w154 => ∃ t_Name155 : ByteArray, ∃ n_Xt156 : Int, ∃ n_Op157 : Int, ∃ b_Immediate158 : Bool, ∃ b159 : Bool, e153 = .returned (.tuple #[.agg #[.string t_Name155, .int .i64 n_Xt156, .int .i64 n_Op157, .bool b_Immediate158], .bool b159]) ∧
 ∀ (b160 : Nat) (w161 : World), b160 = w154.heap.size → w161 = World.alloc w154 (.cells #[.string (bs []), .int .i64 (0 : Int), .int .i64 (0 : Int), .bool false] T_api_Word) →
 wrOk w161 ⟨b160, 0, none⟩ 4 ∧ ∀ w162 : World, w162 = stW w161 ⟨b160, 0, none⟩ 0 [.string t_Name155, .int .i64 n_Xt156, .int .i64 n_Op157, .bool b_Immediate158] →
 Calls Try.prog fn_words_Words_Add #[.pointer none, .agg #[.string (bs [120]), .int .i64 (0 : Int), .int .i64 (0 : Int), .bool false]] w162 fun e163 w164 => ∃ n165 : Int, e163 = .returned (.int .i64 n165) ∧
 brB (n165 == (-16 : Int))
 (brB (!b159)
 (Calls Try.prog fn_words_Words_Immediate #[.pointer none] w164 fun e166 w167 => ∃ b168 : Bool, e166 = .returned (.bool b168) ∧
 brB (!b168)
 (Calls Try.prog fn_words_Words_Cut #[.pointer none, .int .i64 (0 : Int)] w167 fun e169 w170 => ∃ b171 : Bool, e169 = .returned (.bool b171) ∧
 brB (!b171)
 (Calls Try.prog fn_words_Words_Len #[.pointer none] w170 fun e172 w173 => ∃ n174 : Int, e172 = .returned (.int .i64 n174) ∧
 Calls Try.prog fn_words_Words_All #[.pointer none] w173 fun e175 w176 => ∃ s177 : Sl, e175 = .returned (s177.val) ∧
 brB ((wr (n174 + (s177.len : Int))) == (0 : Int))
 (Calls Try.prog fn_words_Words_Copy #[.pointer none] w176 fun e178 w179 => ∃ p180 : Option Addr, e178 = .returned (.pointer p180) ∧
 brB (Option.isNone p180)
 (Calls Try.prog fn_words_Same #[.string ask2, .string other3] w179 fun e181 w182 => ∃ b183 : Bool, e181 = .returned (.bool b183) ∧
 Calls Try.prog fn_hollowayref1_Same #[.string ask2, .string other3] w182 fun e184 w185 => ∃ b186 : Bool, e184 = .returned (.bool b186) ∧
 brB (b183 == b186)
 (Calls Try.prog fn_words_Right #[.string ask2] w185 fun e187 w188 => ∃ b189 : Bool, e187 = .returned (.bool b189) ∧
 Calls Try.prog fn_hollowayref1_Word #[.string ask2] w188 fun e190 w191 => ∃ b192 : Bool, e190 = .returned (.bool b192) ∧
 brB (b189 == b192)
 (Calls Try.prog fn_hollowaybook_Book_Apart #[.pointer (some ⟨b18, 0, none⟩)] w191 fun e193 w194 => ∃ b195 : Bool, e193 = .returned (.bool b195) ∧
 K (.bool b195) w194)
 (K (.bool false) w191))
 (K (.bool false) w185))
 (K (.bool false) w179))
 (K (.bool false) w176))
 (K (.bool false) w170))
 (K (.bool false) w167))
 (K (.bool false) w164))
 (K (.bool false) w164))))) ∧
 brB (decide ((l_1.len : Int) > (60 : Int)))
 (J3 true w)
 (brB (decide ((ask2.size : Int) > (60 : Int)))
 (J3 true w)
 (brB (decide ((other3.size : Int) > (60 : Int)))
 (J3 true w)
 (Calls Try.prog fn_hollowaylaw7_alive #[] w fun e4 w5 => ∃ b6 : Bool, e4 = .returned (.bool b6) ∧
 J3 (!b6) w5)))
def hollowaylaw7_WordsPlay_an : An := ⟨[(9, [(7, .ptr), (8, .sl), (10, .int .i64)])], [(29, (5, .st 0 (.st 2 (.st 3 (.two 1 (.ef 4 .done) 4 (.ef 1 .done)))), 1)), (45, (38, .st 0 (.st 1 (.st 2 (.st 3 (.st 4 (.ef 5 (.st 6 (.st 7 (.st 8 (.st 9 (.st 11 (.st 12 (.ef 10 (.st 13 (.st 14 (.st 15 (.st 16 (.st 17 (.st 18 (.st 19 (.st 20 (.st 21 (.st 22 (.st 23 (.st 24 (.st 25 (.st 26 (.st 27 (.st 28 (.ef 29 (.st 30 (.st 31 (.st 32 (.st 33 (.st 34 (.st 35 (.st 36 (.ef 37 .done))))))))))))))))))))))))))))))))))))), 1))], [(2, [(39, .bool)]), (30, [(8, .sl), (13, .int .i64)]), (33, [(14, .bool)]), (46, [(195, .bool)]), (41, [(7, .ptr), (8, .sl), (12, .bool)])]⟩
theorem hollowaylaw7_WordsPlay_lift {l_1 : Sl} {ask2 : ByteArray} {other3 : ByteArray} {w : World} {K : Value → World → Prop} (h : hollowaylaw7_WordsPlay_sh l_1 ask2 other3 w K) : Calls Try.prog fn_hollowaylaw7_WordsPlay #[l_1.val, .string ask2, .string other3] w fun e w' => ∃ v, e = .returned v ∧ K v w' :=
   lift_calls (A := hollowaylaw7_WordsPlay_an) (c := bodyOf Try.f11) (args := [l_1.val, .string ask2, .string other3]) orc orc_wide Try.func11 (by kernel_rfl) (by kernel_rfl) (Eq.mp (by kernel_rfl : hollowaylaw7_WordsPlay_sh l_1 ask2 other3 w K = wpc orc Try.f11.ntmps hollowaylaw7_WordsPlay_an (bodyOf Try.f11) (argl 0 [l_1.val, .string ask2, .string other3]) w (retQ orc Try.f11.results.toList K)) h)

-- holloway/hollowaylaw7.alive
def hollowaylaw7_alive_sh  (w : World) (K : Value → World → Prop) : Prop :=
 Calls Try.prog fn_words_New #[] w fun e1 w2 => ∃ p3 : Option Addr, e1 = .returned (.pointer p3) ∧
 Calls Try.prog fn_words_Words_Find #[.pointer p3, .string (bs [68, 117, 112])] w2 fun e4 w5 => ∃ t_Name6 : ByteArray, ∃ n_Xt7 : Int, ∃ n_Op8 : Int, ∃ b_Immediate9 : Bool, ∃ b10 : Bool, e4 = .returned (.tuple #[.agg #[.string t_Name6, .int .i64 n_Xt7, .int .i64 n_Op8, .bool b_Immediate9], .bool b10]) ∧
 ∀ (b11 : Nat) (w12 : World), b11 = w5.heap.size → w12 = World.alloc w5 (.cells #[.string (bs []), .int .i64 (0 : Int), .int .i64 (0 : Int), .bool false] T_api_Word) →
 wrOk w12 ⟨b11, 0, none⟩ 4 ∧ ∀ w13 : World, w13 = stW w12 ⟨b11, 0, none⟩ 0 [.string t_Name6, .int .i64 n_Xt7, .int .i64 n_Op8, .bool b_Immediate9] →
 brB (!(Option.isNone p3))
 (brB b10
 (∃ t_Name14 : ByteArray, ∃ n_Xt15 : Int, ∃ n_Op16 : Int, ∃ b_Immediate17 : Bool, w13.cell? ⟨b11, 0, none⟩ = some (.string t_Name14) ∧ w13.cell? ⟨b11, 1, none⟩ = some (.int .i64 n_Xt15) ∧ w13.cell? ⟨b11, 2, none⟩ = some (.int .i64 n_Op16) ∧ w13.cell? ⟨b11, 3, none⟩ = some (.bool b_Immediate17) ∧
 ∃ b18 : Bool, ∃ w19 : World, ((do eqGuard .eql T_api_Word (.tmp 16) (.tmp 17) (.agg #[.string t_Name14, .int .i64 n_Xt15, .int .i64 n_Op16, .bool b_Immediate17]) (.agg #[.string (bs [68, 85, 80]), .int .i64 (76 : Int), .int .i64 (6 : Int), .bool false]); binOp .eql T_api_Word (.agg #[.string t_Name14, .int .i64 n_Xt15, .int .i64 n_Op16, .bool b_Immediate17]) (.agg #[.string (bs [68, 85, 80]), .int .i64 (76 : Int), .int .i64 (6 : Int), .bool false]) : Sem Value)).run Try.prog w13 = .ok (.bool b18) w19 ∧
 brB b18
 (Calls Try.prog fn_words_Same #[.string (bs [97, 66]), .string (bs [65, 98])] w19 fun e20 w21 => ∃ b22 : Bool, e20 = .returned (.bool b22) ∧
 brB b22
 (Calls Try.prog fn_words_Right #[.string (bs [120])] w21 fun e23 w24 => ∃ b25 : Bool, e23 = .returned (.bool b25) ∧
 K (.bool b25) w24)
 (K (.bool false) w21))
 (K (.bool false) w19))
 (K (.bool false) w13))
 (K (.bool false) w13)
def hollowaylaw7_alive_an : An := ⟨[], [], []⟩
theorem hollowaylaw7_alive_lift  {w : World} {K : Value → World → Prop} (h : hollowaylaw7_alive_sh  w K) : Calls Try.prog fn_hollowaylaw7_alive #[] w fun e w' => ∃ v, e = .returned v ∧ K v w' :=
   lift_calls (A := hollowaylaw7_alive_an) (c := bodyOf Try.f42) (args := []) orc orc_wide Try.func42 (by kernel_rfl) (by kernel_rfl) (Eq.mp (by kernel_rfl : hollowaylaw7_alive_sh  w K = wpc orc Try.f42.ntmps hollowaylaw7_alive_an (bodyOf Try.f42) (argl 0 []) w (retQ orc Try.f42.results.toList K)) h)

end Go.Proofs.Ytijoigpggphajaa
