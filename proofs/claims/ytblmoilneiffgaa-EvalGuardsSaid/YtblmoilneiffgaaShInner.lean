/- Functions of Inner, read without their frames; that each is enough. Printed by a program of mine (wip/lift/gen.py). -/
import Derived.Test.YtblmoilneiffgaaOrc
set_option maxRecDepth 100000
namespace Go.Proofs.Ytblmoilneiffgaa
open Go.RowKit

-- holloway/inner.Copy
def inner_Copy_sh (s__Ip1 : Int) (s__Handler2 : Int) (s__Stack3 : Sl) (s__Back4 : Sl) (s__Mem5 : Sl) (s__Out6 : ByteArray) (s__In7 : ByteArray) (s__Read8 : Int) (s__Status9 : Int) (s__Code10 : Int) (w : World) (K : Value → World → Prop) : Prop :=
 ∀ (b11 : Nat) (w12 : World), b11 = w.heap.size → w12 = World.alloc w (.cells #[.int .i64 s__Ip1, .int .i64 s__Handler2, s__Stack3.val, s__Back4.val, s__Mem5.val, .string s__Out6, .string s__In7, .int .i64 s__Read8, .int .i64 s__Status9, .int .i64 s__Code10] T_api_State) →
 ∀ (b13 : Nat) (w14 : World), b13 = w12.heap.size → w14 = World.alloc w12 (.cells #[.int .i64 (0 : Int), .int .i64 (0 : Int), .slice none 0 0, .slice none 0 0, .slice none 0 0, .string (bs []), .string (bs []), .int .i64 (0 : Int), .int .i64 (0 : Int), .int .i64 (0 : Int)] T_api_State) →
 ∀ w15 : World, w15 = World.drew w14 →
 ∃ S16 : World → Prop, S16 w15 ∧
 ∃ s17 : Sl, held S16 ⟨b11, 2, none⟩ (s17.val) ∧
 ∃ s18 : Sl, held S16 ⟨b11, 3, none⟩ (s18.val) ∧
 ∃ s19 : Sl, held S16 ⟨b11, 4, none⟩ (s19.val) ∧
 Calls Try.prog fn_slices_Clone_sl_int_int #[s17.val] w15 fun e20 w21 => ∃ s22 : Sl, e20 = .returned (s22.val) ∧
 S16 w21 ∧
 Calls Try.prog fn_slices_Clone_sl_int_int #[s18.val] w21 fun e23 w24 => ∃ s25 : Sl, e23 = .returned (s25.val) ∧
 S16 w24 ∧
 Calls Try.prog fn_slices_Clone_sl_int_int #[s19.val] w24 fun e26 w27 => ∃ s28 : Sl, e26 = .returned (s28.val) ∧
 S16 w27 ∧
 wrOk w27 ⟨b11, 2, none⟩ 1 ∧ ∀ w29 : World, w29 = stW w27 ⟨b11, 2, none⟩ 0 [s22.val] →
 wrOk w29 ⟨b11, 3, none⟩ 1 ∧ ∀ w30 : World, w30 = stW w29 ⟨b11, 3, none⟩ 0 [s25.val] →
 wrOk w30 ⟨b11, 4, none⟩ 1 ∧ ∀ w31 : World, w31 = stW w30 ⟨b11, 4, none⟩ 0 [s28.val] →
 ∃ n_Ip32 : Int, ∃ n_Handler33 : Int, ∃ s_Stack34 : Sl, ∃ s_Back35 : Sl, ∃ s_Mem36 : Sl, ∃ t_Out37 : ByteArray, ∃ t_In38 : ByteArray, ∃ n_Read39 : Int, ∃ n_Status40 : Int, ∃ n_Code41 : Int, w31.cell? ⟨b11, 0, none⟩ = some (.int .i64 n_Ip32) ∧ w31.cell? ⟨b11, 1, none⟩ = some (.int .i64 n_Handler33) ∧ w31.cell? ⟨b11, 2, none⟩ = some (s_Stack34.val) ∧ w31.cell? ⟨b11, 3, none⟩ = some (s_Back35.val) ∧ w31.cell? ⟨b11, 4, none⟩ = some (s_Mem36.val) ∧ w31.cell? ⟨b11, 5, none⟩ = some (.string t_Out37) ∧ w31.cell? ⟨b11, 6, none⟩ = some (.string t_In38) ∧ w31.cell? ⟨b11, 7, none⟩ = some (.int .i64 n_Read39) ∧ w31.cell? ⟨b11, 8, none⟩ = some (.int .i64 n_Status40) ∧ w31.cell? ⟨b11, 9, none⟩ = some (.int .i64 n_Code41) ∧
 wrOk w31 ⟨b13, 0, none⟩ 10 ∧ ∀ w42 : World, w42 = stW w31 ⟨b13, 0, none⟩ 0 [.int .i64 n_Ip32, .int .i64 n_Handler33, s_Stack34.val, s_Back35.val, s_Mem36.val, .string t_Out37, .string t_In38, .int .i64 n_Read39, .int .i64 n_Status40, .int .i64 n_Code41] →
 ∃ r_Ip43 : Int, ∃ r_Handler44 : Int, ∃ r_Stack45 : Sl, ∃ r_Back46 : Sl, ∃ r_Mem47 : Sl, ∃ r_Out48 : ByteArray, ∃ r_In49 : ByteArray, ∃ r_Read50 : Int, ∃ r_Status51 : Int, ∃ r_Code52 : Int, w42.cell? ⟨b13, 0, none⟩ = some (.int .i64 r_Ip43) ∧ w42.cell? ⟨b13, 1, none⟩ = some (.int .i64 r_Handler44) ∧ w42.cell? ⟨b13, 2, none⟩ = some (r_Stack45.val) ∧ w42.cell? ⟨b13, 3, none⟩ = some (r_Back46.val) ∧ w42.cell? ⟨b13, 4, none⟩ = some (r_Mem47.val) ∧ w42.cell? ⟨b13, 5, none⟩ = some (.string r_Out48) ∧ w42.cell? ⟨b13, 6, none⟩ = some (.string r_In49) ∧ w42.cell? ⟨b13, 7, none⟩ = some (.int .i64 r_Read50) ∧ w42.cell? ⟨b13, 8, none⟩ = some (.int .i64 r_Status51) ∧ w42.cell? ⟨b13, 9, none⟩ = some (.int .i64 r_Code52) ∧
 K (.agg #[.int .i64 r_Ip43, .int .i64 r_Handler44, r_Stack45.val, r_Back46.val, r_Mem47.val, .string r_Out48, .string r_In49, .int .i64 r_Read50, .int .i64 r_Status51, .int .i64 r_Code52]) w42
def inner_Copy_an : An := ⟨[], [(1, (10, .st 0 (.st 1 (.st 3 (.st 4 (.st 6 (.st 7 (.ef 2 (.st 9 (.ef 5 (.ef 8 .done))))))))), 1))], []⟩
theorem inner_Copy_lift {s__Ip1 : Int} {s__Handler2 : Int} {s__Stack3 : Sl} {s__Back4 : Sl} {s__Mem5 : Sl} {s__Out6 : ByteArray} {s__In7 : ByteArray} {s__Read8 : Int} {s__Status9 : Int} {s__Code10 : Int} {w : World} {K : Value → World → Prop} (h : inner_Copy_sh s__Ip1 s__Handler2 s__Stack3 s__Back4 s__Mem5 s__Out6 s__In7 s__Read8 s__Status9 s__Code10 w K) : Calls Try.prog fn_inner_Copy #[.agg #[.int .i64 s__Ip1, .int .i64 s__Handler2, s__Stack3.val, s__Back4.val, s__Mem5.val, .string s__Out6, .string s__In7, .int .i64 s__Read8, .int .i64 s__Status9, .int .i64 s__Code10]] w fun e w' => ∃ v, e = .returned v ∧ K v w' :=
   lift_calls (A := inner_Copy_an) (c := bodyOf Try.f116) (args := [.agg #[.int .i64 s__Ip1, .int .i64 s__Handler2, s__Stack3.val, s__Back4.val, s__Mem5.val, .string s__Out6, .string s__In7, .int .i64 s__Read8, .int .i64 s__Status9, .int .i64 s__Code10]]) orc orc_wide Try.func116 (by kernel_rfl) (by kernel_rfl) (Eq.mp (by kernel_rfl : inner_Copy_sh s__Ip1 s__Handler2 s__Stack3 s__Back4 s__Mem5 s__Out6 s__In7 s__Read8 s__Status9 s__Code10 w K = wpc orc Try.f116.ntmps inner_Copy_an (bodyOf Try.f116) (argl 0 [.agg #[.int .i64 s__Ip1, .int .i64 s__Handler2, s__Stack3.val, s__Back4.val, s__Mem5.val, .string s__Out6, .string s__In7, .int .i64 s__Read8, .int .i64 s__Status9, .int .i64 s__Code10]]) w (retQ orc Try.f116.results.toList K)) h)

end Go.Proofs.Ytblmoilneiffgaa
