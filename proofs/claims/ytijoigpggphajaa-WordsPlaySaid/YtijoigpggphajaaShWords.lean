/- Functions of Words, read without their frames; that each is enough. Printed by a program of mine (wip/lift/gen.py). -/
import Derived.Test.YtijoigpggphajaaOrc
set_option maxRecDepth 100000
namespace Go.Proofs.Ytijoigpggphajaa
open Go.RowKit

-- holloway/words.Right
def words_Right_sh (name1 : ByteArray) (w : World) (K : Value → World → Prop) : Prop :=
 ∃ (I1 : Int → World → Prop) (μ1 : Int → World → Nat), I1 (0 : Int) w ∧ ∀ (n3 : Int) (w2 : World), I1 n3 w2 →
 brB (decide (n3 < (name1.size : Int)))
 (0 ≤ n3 ∧ n3 < (name1.size : Int) ∧
 brB (decide ((sb name1 n3) ≤ (32 : Int)))
 (K (.bool false) w2)
 (I1 (wr (n3 + (1 : Int))) w2 ∧ μ1 (wr (n3 + (1 : Int))) w2 < μ1 n3 w2))
 (brB (!(name1.toList == (bs []).toList))
 (K (.bool (decide ((name1.size : Int) ≤ (20 : Int)))) w2)
 (K (.bool false) w2))
def words_Right_an : An := ⟨[(2, [(6, .int .i64)])], [], []⟩
theorem words_Right_lift {name1 : ByteArray} {w : World} {K : Value → World → Prop} (h : words_Right_sh name1 w K) : Calls Try.prog fn_words_Right #[.string name1] w fun e w' => ∃ v, e = .returned v ∧ K v w' :=
   lift_calls (A := words_Right_an) (c := bodyOf Try.f41) (args := [.string name1]) orc orc_wide Try.func41 (by kernel_rfl) (by kernel_rfl) (Eq.mp (by kernel_rfl : words_Right_sh name1 w K = wpc orc Try.f41.ntmps words_Right_an (bodyOf Try.f41) (argl 0 [.string name1]) w (retQ orc Try.f41.results.toList K)) h)

-- holloway/words.New
def words_New_sh  (w : World) (K : Value → World → Prop) : Prop :=
 ∀ (b1 : Nat) (w2 : World), b1 = w.heap.size → w2 = World.alloc w (.cells #[.slice none 0 0] T_words_Words) →
 ∃ (I1 : Int → World → Prop) (μ1 : Int → World → Nat), I1 (0 : Int) w2 ∧ ∀ (n4 : Int) (w3 : World), I1 n4 w3 →
 brB (decide (n4 < (48 : Int)))
 (∃ J7 : World → Prop, (∀ (w14 : World), J7  w14 →
 I1 (wr (n4 + (1 : Int))) w14 ∧ μ1 (wr (n4 + (1 : Int))) w14 < μ1 n4 w3) ∧
 Calls Try.prog fn_words_first #[.int .i64 n4] w3 fun e5 w6 => ∃ b7 : Bool, e5 = .returned (.bool b7) ∧
 brB b7
 (Calls Try.prog fn_op_Name #[.int .i64 n4] w6 fun e8 w9 => ∃ t10 : ByteArray, e8 = .returned (.string t10) ∧
 Calls Try.prog fn_words_Words_Add #[.pointer (some ⟨b1, 0, none⟩), .agg #[.string t10, .int .i64 (wr ((64 : Int) + (wr ((2 : Int) * n4)))), .int .i64 n4, .bool false]] w9 fun e11 w12 => ∃ n13 : Int, e11 = .returned (.int .i64 n13) ∧
 J7  w12)
 (J7  w6))
 (K (.pointer (some ⟨b1, 0, none⟩)) w3)
def words_New_an : An := ⟨[(3, [(5, .int .i64)])], [], [(7, [])]⟩
theorem words_New_lift  {w : World} {K : Value → World → Prop} (h : words_New_sh  w K) : Calls Try.prog fn_words_New #[] w fun e w' => ∃ v, e = .returned v ∧ K v w' :=
   lift_calls (A := words_New_an) (c := bodyOf Try.f43) (args := []) orc orc_wide Try.func43 (by kernel_rfl) (by kernel_rfl) (Eq.mp (by kernel_rfl : words_New_sh  w K = wpc orc Try.f43.ntmps words_New_an (bodyOf Try.f43) (argl 0 []) w (retQ orc Try.f43.results.toList K)) h)

-- (*holloway/words.Words).Add
def words_Words_Add_sh (w_1 : Nat) (x__Name2 : ByteArray) (x__Xt3 : Int) (x__Op4 : Int) (x__Immediate5 : Bool) (w : World) (K : Value → World → Prop) : Prop :=
 ∀ (b6 : Nat) (w7 : World), b6 = w.heap.size → w7 = World.alloc w (.cells #[.string x__Name2, .int .i64 x__Xt3, .int .i64 x__Op4, .bool x__Immediate5] T_api_Word) →
 ∃ t8 : ByteArray, w7.cell? ⟨b6, 0, none⟩ = some (.string t8) ∧
 Calls Try.prog fn_words_Right #[.string t8] w7 fun e9 w10 => ∃ b11 : Bool, e9 = .returned (.bool b11) ∧
 brB (!b11)
 (K (.int .i64 (-16 : Int)) w10)
 (∃ s12 : Sl, w10.cell? ⟨w_1, 0, none⟩ = some (s12.val) ∧
 brB (decide ((s12.len : Int) ≥ (200 : Int)))
 (K (.int .i64 (-8 : Int)) w10)
 (∀ w13 : World, w13 = World.drew w10 →
 ∃ S14 : World → Prop, S14 w13 ∧
 ∃ s15 : Sl, held S14 ⟨w_1, 0, none⟩ (s15.val) ∧
 ∃ t_Name16 : ByteArray, ∃ n_Xt17 : Int, ∃ n_Op18 : Int, ∃ b_Immediate19 : Bool, held S14 ⟨b6, 0, none⟩ (.string t_Name16) ∧ held S14 ⟨b6, 1, none⟩ (.int .i64 n_Xt17) ∧ held S14 ⟨b6, 2, none⟩ (.int .i64 n_Op18) ∧ held S14 ⟨b6, 3, none⟩ (.bool b_Immediate19) ∧
 ∀ (b20 : Nat) (w21 : World), b20 = w13.heap.size → w21 = World.alloc w13 (.cells #[.string t_Name16, .int .i64 n_Xt17, .int .i64 n_Op18, .bool b_Immediate19] T_api_Word) →
 S14 w21 ∧
 ∃ s22 : Sl, ∃ w23 : World, (Builtin.append_ #[T_sl_api_Word, T_sl_api_Word] T_sl_api_Word #[s15.val, .slice (some ⟨b20, 0, none⟩) 1 1]).run Try.prog w21 = .ok (s22.val) w23 ∧
 S14 w23 ∧
 wrOk w23 ⟨w_1, 0, none⟩ 1 ∧ ∀ w24 : World, w24 = stW w23 ⟨w_1, 0, none⟩ 0 [s22.val] →
 K (.int .i64 (0 : Int)) w24))
def words_Words_Add_an : An := ⟨[], [(5, (8, .st 0 (.st 1 (.st 2 (.st 3 (.st 4 (.st 5 (.ef 6 (.ef 7 .done))))))), 1))], []⟩
theorem words_Words_Add_lift {w_1 : Nat} {x__Name2 : ByteArray} {x__Xt3 : Int} {x__Op4 : Int} {x__Immediate5 : Bool} {w : World} {K : Value → World → Prop} (h : words_Words_Add_sh w_1 x__Name2 x__Xt3 x__Op4 x__Immediate5 w K) : Calls Try.prog fn_words_Words_Add #[.pointer (some ⟨w_1, 0, none⟩), .agg #[.string x__Name2, .int .i64 x__Xt3, .int .i64 x__Op4, .bool x__Immediate5]] w fun e w' => ∃ v, e = .returned v ∧ K v w' :=
   lift_calls (A := words_Words_Add_an) (c := bodyOf Try.f44) (args := [.pointer (some ⟨w_1, 0, none⟩), .agg #[.string x__Name2, .int .i64 x__Xt3, .int .i64 x__Op4, .bool x__Immediate5]]) orc orc_wide Try.func44 (by kernel_rfl) (by kernel_rfl) (Eq.mp (by kernel_rfl : words_Words_Add_sh w_1 x__Name2 x__Xt3 x__Op4 x__Immediate5 w K = wpc orc Try.f44.ntmps words_Words_Add_an (bodyOf Try.f44) (argl 0 [.pointer (some ⟨w_1, 0, none⟩), .agg #[.string x__Name2, .int .i64 x__Xt3, .int .i64 x__Op4, .bool x__Immediate5]]) w (retQ orc Try.f44.results.toList K)) h)

-- (*holloway/words.Words).Find
def words_Words_Find_sh (w_1 : Nat) (name2 : ByteArray) (w : World) (K : Value → World → Prop) : Prop :=
 ∀ (b3 : Nat) (w4 : World), b3 = w.heap.size → w4 = World.alloc w (.cells #[.string (bs []), .int .i64 (0 : Int), .int .i64 (0 : Int), .bool false] T_api_Word) →
 ∃ s5 : Sl, w4.cell? ⟨w_1, 0, none⟩ = some (s5.val) ∧
 ∃ (I1 : Int → World → Prop) (μ1 : Int → World → Nat), I1 (wr ((s5.len : Int) - (1 : Int))) w4 ∧ ∀ (i7 : Int) (w6 : World), I1 i7 w6 →
 brB (decide (i7 ≥ (0 : Int)))
 (∃ s8 : Sl, w6.cell? ⟨w_1, 0, none⟩ = some (s8.val) ∧
 ∃ a9 : Addr, s8.ptr = some a9 ∧ 0 ≤ i7 ∧ i7 < (s8.len : Int) ∧
 ∃ t10 : ByteArray, w6.cell? (Addr.add a9 (Int.toNat i7 * 4)) = some (.string t10) ∧
 Calls Try.prog fn_words_Same #[.string t10, .string name2] w6 fun e11 w12 => ∃ b13 : Bool, e11 = .returned (.bool b13) ∧
 brB b13
 (∃ s14 : Sl, w12.cell? ⟨w_1, 0, none⟩ = some (s14.val) ∧
 ∃ a15 : Addr, s14.ptr = some a15 ∧ 0 ≤ i7 ∧ i7 < (s14.len : Int) ∧
 ∃ t_Name16 : ByteArray, ∃ n_Xt17 : Int, ∃ n_Op18 : Int, ∃ b_Immediate19 : Bool, w12.cell? (Addr.add a15 (Int.toNat i7 * 4)) = some (.string t_Name16) ∧ w12.cell? (Addr.add (Addr.add a15 (Int.toNat i7 * 4)) 1) = some (.int .i64 n_Xt17) ∧ w12.cell? (Addr.add (Addr.add a15 (Int.toNat i7 * 4)) 2) = some (.int .i64 n_Op18) ∧ w12.cell? (Addr.add (Addr.add a15 (Int.toNat i7 * 4)) 3) = some (.bool b_Immediate19) ∧
 wrOk w12 ⟨b3, 0, none⟩ 4 ∧ ∀ w20 : World, w20 = stW w12 ⟨b3, 0, none⟩ 0 [.string t_Name16, .int .i64 n_Xt17, .int .i64 n_Op18, .bool b_Immediate19] →
 ∃ r_Name21 : ByteArray, ∃ r_Xt22 : Int, ∃ r_Op23 : Int, ∃ r_Immediate24 : Bool, w20.cell? ⟨b3, 0, none⟩ = some (.string r_Name21) ∧ w20.cell? ⟨b3, 1, none⟩ = some (.int .i64 r_Xt22) ∧ w20.cell? ⟨b3, 2, none⟩ = some (.int .i64 r_Op23) ∧ w20.cell? ⟨b3, 3, none⟩ = some (.bool r_Immediate24) ∧
 K (.tuple #[.agg #[.string r_Name21, .int .i64 r_Xt22, .int .i64 r_Op23, .bool r_Immediate24], .bool true]) w20)
 (I1 (wr (i7 - (1 : Int))) w12 ∧ μ1 (wr (i7 - (1 : Int))) w12 < μ1 i7 w6))
 (wrOk w6 ⟨b3, 0, none⟩ 4 ∧ ∀ w25 : World, w25 = stW w6 ⟨b3, 0, none⟩ 0 [.string (bs []), .int .i64 (0 : Int), .int .i64 (0 : Int), .bool false] →
 ∃ r_Name26 : ByteArray, ∃ r_Xt27 : Int, ∃ r_Op28 : Int, ∃ r_Immediate29 : Bool, w25.cell? ⟨b3, 0, none⟩ = some (.string r_Name26) ∧ w25.cell? ⟨b3, 1, none⟩ = some (.int .i64 r_Xt27) ∧ w25.cell? ⟨b3, 2, none⟩ = some (.int .i64 r_Op28) ∧ w25.cell? ⟨b3, 3, none⟩ = some (.bool r_Immediate29) ∧
 K (.tuple #[.agg #[.string r_Name26, .int .i64 r_Xt27, .int .i64 r_Op28, .bool r_Immediate29], .bool false]) w25)
def words_Words_Find_an : An := ⟨[(4, [(6, .int .i64)])], [], []⟩
theorem words_Words_Find_lift {w_1 : Nat} {name2 : ByteArray} {w : World} {K : Value → World → Prop} (h : words_Words_Find_sh w_1 name2 w K) : Calls Try.prog fn_words_Words_Find #[.pointer (some ⟨w_1, 0, none⟩), .string name2] w fun e w' => ∃ v, e = .returned v ∧ K v w' :=
   lift_calls (A := words_Words_Find_an) (c := bodyOf Try.f45) (args := [.pointer (some ⟨w_1, 0, none⟩), .string name2]) orc orc_wide Try.func45 (by kernel_rfl) (by kernel_rfl) (Eq.mp (by kernel_rfl : words_Words_Find_sh w_1 name2 w K = wpc orc Try.f45.ntmps words_Words_Find_an (bodyOf Try.f45) (argl 0 [.pointer (some ⟨w_1, 0, none⟩), .string name2]) w (retQ orc Try.f45.results.toList K)) h)

-- holloway/words.Same
def words_Same_sh (a_1 : ByteArray) (b_2 : ByteArray) (w : World) (K : Value → World → Prop) : Prop :=
 brB ((a_1.size : Int) != (b_2.size : Int))
 (K (.bool false) w)
 (∃ (I1 : Int → World → Prop) (μ1 : Int → World → Nat), I1 (0 : Int) w ∧ ∀ (n4 : Int) (w3 : World), I1 n4 w3 →
 brB (decide (n4 < (a_1.size : Int)))
 (∀ w5 : World, w5 = World.drew w3 →
 0 ≤ n4 ∧ n4 < (a_1.size : Int) ∧
 0 ≤ n4 ∧ n4 < (b_2.size : Int) ∧
 Calls Try.prog fn_words_great #[.int .u8 (sb a_1 n4)] w5 fun e6 w7 => ∃ n8 : Int, e6 = .returned (.int .u8 n8) ∧
 Tt w7 ∧
 Calls Try.prog fn_words_great #[.int .u8 (sb b_2 n4)] w7 fun e9 w10 => ∃ n11 : Int, e9 = .returned (.int .u8 n11) ∧
 brB (n8 != n11)
 (K (.bool false) w10)
 (I1 (wr (n4 + (1 : Int))) w10 ∧ μ1 (wr (n4 + (1 : Int))) w10 < μ1 n4 w3))
 (K (.bool true) w3))
def words_Same_an : An := ⟨[(4, [(13, .int .i64)])], [(6, (7, .st 0 (.st 1 (.st 2 (.st 4 (.st 5 (.st 6 (.ef 3 .done)))))), 2))], []⟩
theorem words_Same_lift {a_1 : ByteArray} {b_2 : ByteArray} {w : World} {K : Value → World → Prop} (h : words_Same_sh a_1 b_2 w K) : Calls Try.prog fn_words_Same #[.string a_1, .string b_2] w fun e w' => ∃ v, e = .returned v ∧ K v w' :=
   lift_calls (A := words_Same_an) (c := bodyOf Try.f46) (args := [.string a_1, .string b_2]) orc orc_wide Try.func46 (by kernel_rfl) (by kernel_rfl) (Eq.mp (by kernel_rfl : words_Same_sh a_1 b_2 w K = wpc orc Try.f46.ntmps words_Same_an (bodyOf Try.f46) (argl 0 [.string a_1, .string b_2]) w (retQ orc Try.f46.results.toList K)) h)

-- (*holloway/words.Words).Len
def words_Words_Len_sh (w_1 : Nat) (w : World) (K : Value → World → Prop) : Prop :=
 ∃ s2 : Sl, w.cell? ⟨w_1, 0, none⟩ = some (s2.val) ∧
 K (.int .i64 (s2.len : Int)) w
def words_Words_Len_an : An := ⟨[], [], []⟩
theorem words_Words_Len_lift {w_1 : Nat} {w : World} {K : Value → World → Prop} (h : words_Words_Len_sh w_1 w K) : Calls Try.prog fn_words_Words_Len #[.pointer (some ⟨w_1, 0, none⟩)] w fun e w' => ∃ v, e = .returned v ∧ K v w' :=
   lift_calls (A := words_Words_Len_an) (c := bodyOf Try.f48) (args := [.pointer (some ⟨w_1, 0, none⟩)]) orc orc_wide Try.func48 (by kernel_rfl) (by kernel_rfl) (Eq.mp (by kernel_rfl : words_Words_Len_sh w_1 w K = wpc orc Try.f48.ntmps words_Words_Len_an (bodyOf Try.f48) (argl 0 [.pointer (some ⟨w_1, 0, none⟩)]) w (retQ orc Try.f48.results.toList K)) h)

-- (*holloway/words.Words).Cut
def words_Words_Cut_sh (w_1 : Nat) (n_2 : Int) (w : World) (K : Value → World → Prop) : Prop :=
 ∃ J3 : Bool → World → Prop, (∀ (b5 : Bool) (w4 : World), J3 b5 w4 →
 brB b5
 (K (.bool false) w4)
 (∃ s6 : Sl, w4.cell? ⟨w_1, 0, none⟩ = some (s6.val) ∧
 0 ≤ n_2 ∧ n_2 ≤ (s6.cap : Int) ∧ ∀ s7 : Sl, s7 = Sl.sub s6.ptr s6.cap 0 (Int.toNat n_2) 4 →
 wrOk w4 ⟨w_1, 0, none⟩ 1 ∧ ∀ w8 : World, w8 = stW w4 ⟨w_1, 0, none⟩ 0 [s7.val] →
 K (.bool true) w8)) ∧
 brB (decide (n_2 < (0 : Int)))
 (J3 true w)
 (∃ s3 : Sl, w.cell? ⟨w_1, 0, none⟩ = some (s3.val) ∧
 J3 (decide (n_2 > (s3.len : Int))) w)
def words_Words_Cut_an : An := ⟨[], [], [(2, [(19, .bool)])]⟩
theorem words_Words_Cut_lift {w_1 : Nat} {n_2 : Int} {w : World} {K : Value → World → Prop} (h : words_Words_Cut_sh w_1 n_2 w K) : Calls Try.prog fn_words_Words_Cut #[.pointer (some ⟨w_1, 0, none⟩), .int .i64 n_2] w fun e w' => ∃ v, e = .returned v ∧ K v w' :=
   lift_calls (A := words_Words_Cut_an) (c := bodyOf Try.f49) (args := [.pointer (some ⟨w_1, 0, none⟩), .int .i64 n_2]) orc orc_wide Try.func49 (by kernel_rfl) (by kernel_rfl) (Eq.mp (by kernel_rfl : words_Words_Cut_sh w_1 n_2 w K = wpc orc Try.f49.ntmps words_Words_Cut_an (bodyOf Try.f49) (argl 0 [.pointer (some ⟨w_1, 0, none⟩), .int .i64 n_2]) w (retQ orc Try.f49.results.toList K)) h)

-- (*holloway/words.Words).Immediate
def words_Words_Immediate_sh (w_1 : Nat) (w : World) (K : Value → World → Prop) : Prop :=
 Calls Try.prog fn_words_Words_Len #[.pointer (some ⟨w_1, 0, none⟩)] w fun e2 w3 => ∃ n4 : Int, e2 = .returned (.int .i64 n4) ∧
 brB (n4 == (0 : Int))
 (K (.bool false) w3)
 (∀ w5 : World, w5 = World.drew w3 →
 ∃ s6 : Sl, held (Lw w5) ⟨w_1, 0, none⟩ (s6.val) ∧
 ∃ s7 : Sl, held (Lw w5) ⟨w_1, 0, none⟩ (s7.val) ∧
 ∃ a8 : Addr, s6.ptr = some a8 ∧ 0 ≤ (wr ((s7.len : Int) - (1 : Int))) ∧ (wr ((s7.len : Int) - (1 : Int))) < (s6.len : Int) ∧
 wrOk w5 (Addr.add (Addr.add a8 (Int.toNat (wr ((s7.len : Int) - (1 : Int))) * 4)) 3) 1 ∧ ∀ w9 : World, w9 = stW w5 (Addr.add (Addr.add a8 (Int.toNat (wr ((s7.len : Int) - (1 : Int))) * 4)) 3) 0 [.bool true] →
 K (.bool true) w9)
def words_Words_Immediate_an : An := ⟨[], [(3, (12, .st 0 (.st 1 (.st 2 (.st 3 (.st 4 (.st 5 (.st 6 (.st 7 (.st 8 (.st 9 (.st 10 (.st 11 .done))))))))))), 0))], []⟩
theorem words_Words_Immediate_lift {w_1 : Nat} {w : World} {K : Value → World → Prop} (h : words_Words_Immediate_sh w_1 w K) : Calls Try.prog fn_words_Words_Immediate #[.pointer (some ⟨w_1, 0, none⟩)] w fun e w' => ∃ v, e = .returned v ∧ K v w' :=
   lift_calls (A := words_Words_Immediate_an) (c := bodyOf Try.f51) (args := [.pointer (some ⟨w_1, 0, none⟩)]) orc orc_wide Try.func51 (by kernel_rfl) (by kernel_rfl) (Eq.mp (by kernel_rfl : words_Words_Immediate_sh w_1 w K = wpc orc Try.f51.ntmps words_Words_Immediate_an (bodyOf Try.f51) (argl 0 [.pointer (some ⟨w_1, 0, none⟩)]) w (retQ orc Try.f51.results.toList K)) h)

-- (*holloway/words.Words).Copy
def words_Words_Copy_sh (w_1 : Nat) (w : World) (K : Value → World → Prop) : Prop :=
 Calls Try.prog fn_words_Words_All #[.pointer (some ⟨w_1, 0, none⟩)] w fun e2 w3 => ∃ s4 : Sl, e2 = .returned (s4.val) ∧
 ∀ (b5 : Nat) (w6 : World), b5 = w3.heap.size → w6 = World.alloc w3 (.cells #[s4.val] T_words_Words) →
 K (.pointer (some ⟨b5, 0, none⟩)) w6
def words_Words_Copy_an : An := ⟨[], [], []⟩
theorem words_Words_Copy_lift {w_1 : Nat} {w : World} {K : Value → World → Prop} (h : words_Words_Copy_sh w_1 w K) : Calls Try.prog fn_words_Words_Copy #[.pointer (some ⟨w_1, 0, none⟩)] w fun e w' => ∃ v, e = .returned v ∧ K v w' :=
   lift_calls (A := words_Words_Copy_an) (c := bodyOf Try.f52) (args := [.pointer (some ⟨w_1, 0, none⟩)]) orc orc_wide Try.func52 (by kernel_rfl) (by kernel_rfl) (Eq.mp (by kernel_rfl : words_Words_Copy_sh w_1 w K = wpc orc Try.f52.ntmps words_Words_Copy_an (bodyOf Try.f52) (argl 0 [.pointer (some ⟨w_1, 0, none⟩)]) w (retQ orc Try.f52.results.toList K)) h)

-- (*holloway/words.Words).All
def words_Words_All_sh (w_1 : Nat) (w : World) (K : Value → World → Prop) : Prop :=
 ∃ s2 : Sl, w.cell? ⟨w_1, 0, none⟩ = some (s2.val) ∧
 Calls Try.prog fn_slices_Clone_sl_api_Word_api_Word #[s2.val] w fun e3 w4 => ∃ s5 : Sl, e3 = .returned (s5.val) ∧
 K (s5.val) w4
def words_Words_All_an : An := ⟨[], [], []⟩
theorem words_Words_All_lift {w_1 : Nat} {w : World} {K : Value → World → Prop} (h : words_Words_All_sh w_1 w K) : Calls Try.prog fn_words_Words_All #[.pointer (some ⟨w_1, 0, none⟩)] w fun e w' => ∃ v, e = .returned v ∧ K v w' :=
   lift_calls (A := words_Words_All_an) (c := bodyOf Try.f53) (args := [.pointer (some ⟨w_1, 0, none⟩)]) orc orc_wide Try.func53 (by kernel_rfl) (by kernel_rfl) (Eq.mp (by kernel_rfl : words_Words_All_sh w_1 w K = wpc orc Try.f53.ntmps words_Words_All_an (bodyOf Try.f53) (argl 0 [.pointer (some ⟨w_1, 0, none⟩)]) w (retQ orc Try.f53.results.toList K)) h)

-- holloway/words.first
def words_first_j1 (o_1 : Int) (b8 : Bool) (w7 : World) (K : Value → World → Prop) : Prop :=
 brB b8
 (K (.bool false) w7)
 (brB (o_1 == (47 : Int))
 (K (.bool false) w7)
 (brB (o_1 == (45 : Int))
 ((brB (o_1 == (45 : Int))
 (K (.bool true) w7)
 (Calls Try.prog fn_op_Plain #[.int .i64 o_1] w7 fun e14 w15 => ∃ b16 : Bool, e14 = .returned (.bool b16) ∧
 K (.bool b16) w15)))
 ((brB (o_1 == (46 : Int))
 (K (.bool true) w7)
 (Calls Try.prog fn_op_Plain #[.int .i64 o_1] w7 fun e14 w15 => ∃ b16 : Bool, e14 = .returned (.bool b16) ∧
 K (.bool b16) w15)))))
def words_first_sh (o_1 : Int) (w : World) (K : Value → World → Prop) : Prop :=
 Calls Try.prog fn_op_Arg #[.int .i64 o_1] w fun e2 w3 => ∃ b4 : Bool, e2 = .returned (.bool b4) ∧
 brB b4
 (K (.bool false) w3)
 (brB (o_1 == (5 : Int))
 (words_first_j1 o_1 (o_1 == (5 : Int)) w3 K)
 (brB (o_1 == (36 : Int))
 (words_first_j1 o_1 (o_1 == (36 : Int)) w3 K)
 (brB (o_1 == (39 : Int))
 (words_first_j1 o_1 (o_1 == (39 : Int)) w3 K)
 (words_first_j1 o_1 (o_1 == (40 : Int)) w3 K))))
def words_first_an : An := ⟨[], [], []⟩
theorem words_first_lift {o_1 : Int} {w : World} {K : Value → World → Prop} (h : words_first_sh o_1 w K) : Calls Try.prog fn_words_first #[.int .i64 o_1] w fun e w' => ∃ v, e = .returned v ∧ K v w' :=
   lift_calls (A := words_first_an) (c := bodyOf Try.f96) (args := [.int .i64 o_1]) orc orc_wide Try.func96 (by kernel_rfl) (by kernel_rfl) (Eq.mp (by kernel_rfl : words_first_sh o_1 w K = wpc orc Try.f96.ntmps words_first_an (bodyOf Try.f96) (argl 0 [.int .i64 o_1]) w (retQ orc Try.f96.results.toList K)) h)

-- holloway/words.great
def words_great_sh (c_1 : Int) (w : World) (K : Value → World → Prop) : Prop :=
 ∃ J3 : Bool → World → Prop, (∀ (b3 : Bool) (w2 : World), J3 b3 w2 →
 brB b3
 (K (.int .u8 (IntKind.wrap .u8 ((IntKind.wrap .u8 (c_1 - (97 : Int))) + (65 : Int)))) w2)
 (K (.int .u8 c_1) w2)) ∧
 brB (decide (c_1 ≥ (97 : Int)))
 (J3 (decide (c_1 ≤ (122 : Int))) w)
 (J3 false w)
def words_great_an : An := ⟨[], [], [(2, [(8, .bool)])]⟩
theorem words_great_lift {c_1 : Int} {w : World} {K : Value → World → Prop} (h : words_great_sh c_1 w K) : Calls Try.prog fn_words_great #[.int .u8 c_1] w fun e w' => ∃ v, e = .returned v ∧ K v w' :=
   lift_calls (A := words_great_an) (c := bodyOf Try.f97) (args := [.int .u8 c_1]) orc orc_wide Try.func97 (by kernel_rfl) (by kernel_rfl) (Eq.mp (by kernel_rfl : words_great_sh c_1 w K = wpc orc Try.f97.ntmps words_great_an (bodyOf Try.f97) (argl 0 [.int .u8 c_1]) w (retQ orc Try.f97.results.toList K)) h)

-- (*holloway/words.Words).Add:nil
def words_Words_Add_nil_sh (x__Name1 : ByteArray) (x__Xt2 : Int) (x__Op3 : Int) (x__Immediate4 : Bool) (w : World) (K : Value → World → Prop) : Prop :=
 ∀ (b5 : Nat) (w6 : World), b5 = w.heap.size → w6 = World.alloc w (.cells #[.string x__Name1, .int .i64 x__Xt2, .int .i64 x__Op3, .bool x__Immediate4] T_api_Word) →
 K (.int .i64 (-16 : Int)) w6
def words_Words_Add_nil_an : An := ⟨[], [], []⟩
theorem words_Words_Add_nil_lift {x__Name1 : ByteArray} {x__Xt2 : Int} {x__Op3 : Int} {x__Immediate4 : Bool} {w : World} {K : Value → World → Prop} (h : words_Words_Add_nil_sh x__Name1 x__Xt2 x__Op3 x__Immediate4 w K) : Calls Try.prog fn_words_Words_Add #[.pointer none, .agg #[.string x__Name1, .int .i64 x__Xt2, .int .i64 x__Op3, .bool x__Immediate4]] w fun e w' => ∃ v, e = .returned v ∧ K v w' :=
   lift_calls (A := words_Words_Add_nil_an) (c := bodyOf Try.f44) (args := [.pointer none, .agg #[.string x__Name1, .int .i64 x__Xt2, .int .i64 x__Op3, .bool x__Immediate4]]) orc orc_wide Try.func44 (by kernel_rfl) (by kernel_rfl) (Eq.mp (by kernel_rfl : words_Words_Add_nil_sh x__Name1 x__Xt2 x__Op3 x__Immediate4 w K = wpc orc Try.f44.ntmps words_Words_Add_nil_an (bodyOf Try.f44) (argl 0 [.pointer none, .agg #[.string x__Name1, .int .i64 x__Xt2, .int .i64 x__Op3, .bool x__Immediate4]]) w (retQ orc Try.f44.results.toList K)) h)

-- (*holloway/words.Words).Find:nil
def words_Words_Find_nil_sh (name1 : ByteArray) (w : World) (K : Value → World → Prop) : Prop :=
 ∀ (b2 : Nat) (w3 : World), b2 = w.heap.size → w3 = World.alloc w (.cells #[.string (bs []), .int .i64 (0 : Int), .int .i64 (0 : Int), .bool false] T_api_Word) →
 wrOk w3 ⟨b2, 0, none⟩ 4 ∧ ∀ w4 : World, w4 = stW w3 ⟨b2, 0, none⟩ 0 [.string (bs []), .int .i64 (0 : Int), .int .i64 (0 : Int), .bool false] →
 ∃ r_Name5 : ByteArray, ∃ r_Xt6 : Int, ∃ r_Op7 : Int, ∃ r_Immediate8 : Bool, w4.cell? ⟨b2, 0, none⟩ = some (.string r_Name5) ∧ w4.cell? ⟨b2, 1, none⟩ = some (.int .i64 r_Xt6) ∧ w4.cell? ⟨b2, 2, none⟩ = some (.int .i64 r_Op7) ∧ w4.cell? ⟨b2, 3, none⟩ = some (.bool r_Immediate8) ∧
 K (.tuple #[.agg #[.string r_Name5, .int .i64 r_Xt6, .int .i64 r_Op7, .bool r_Immediate8], .bool false]) w4
def words_Words_Find_nil_an : An := ⟨[], [], []⟩
theorem words_Words_Find_nil_lift {name1 : ByteArray} {w : World} {K : Value → World → Prop} (h : words_Words_Find_nil_sh name1 w K) : Calls Try.prog fn_words_Words_Find #[.pointer none, .string name1] w fun e w' => ∃ v, e = .returned v ∧ K v w' :=
   lift_calls (A := words_Words_Find_nil_an) (c := bodyOf Try.f45) (args := [.pointer none, .string name1]) orc orc_wide Try.func45 (by kernel_rfl) (by kernel_rfl) (Eq.mp (by kernel_rfl : words_Words_Find_nil_sh name1 w K = wpc orc Try.f45.ntmps words_Words_Find_nil_an (bodyOf Try.f45) (argl 0 [.pointer none, .string name1]) w (retQ orc Try.f45.results.toList K)) h)

-- (*holloway/words.Words).Immediate:nil
def words_Words_Immediate_nil_sh  (w : World) (K : Value → World → Prop) : Prop :=
 Calls Try.prog fn_words_Words_Len #[.pointer none] w fun e1 w2 => ∃ n3 : Int, e1 = .returned (.int .i64 n3) ∧
 brB (n3 == (0 : Int))
 (K (.bool false) w2)
 (∀ w4 : World, w4 = World.drew w2 →
 False)
def words_Words_Immediate_nil_an : An := ⟨[], [(3, (12, .st 0 (.st 1 (.st 2 (.st 3 (.st 4 (.st 5 (.st 6 (.st 7 (.st 8 (.st 9 (.st 10 (.st 11 .done))))))))))), 0))], []⟩
theorem words_Words_Immediate_nil_lift  {w : World} {K : Value → World → Prop} (h : words_Words_Immediate_nil_sh  w K) : Calls Try.prog fn_words_Words_Immediate #[.pointer none] w fun e w' => ∃ v, e = .returned v ∧ K v w' :=
   lift_calls (A := words_Words_Immediate_nil_an) (c := bodyOf Try.f51) (args := [.pointer none]) orc orc_wide Try.func51 (by kernel_rfl) (by kernel_rfl) (Eq.mp (by kernel_rfl : words_Words_Immediate_nil_sh  w K = wpc orc Try.f51.ntmps words_Words_Immediate_nil_an (bodyOf Try.f51) (argl 0 [.pointer none]) w (retQ orc Try.f51.results.toList K)) h)

-- (*holloway/words.Words).Cut:nil
def words_Words_Cut_nil_sh (n_1 : Int) (w : World) (K : Value → World → Prop) : Prop :=
 K (.bool false) w
def words_Words_Cut_nil_an : An := ⟨[], [], []⟩
theorem words_Words_Cut_nil_lift {n_1 : Int} {w : World} {K : Value → World → Prop} (h : words_Words_Cut_nil_sh n_1 w K) : Calls Try.prog fn_words_Words_Cut #[.pointer none, .int .i64 n_1] w fun e w' => ∃ v, e = .returned v ∧ K v w' :=
   lift_calls (A := words_Words_Cut_nil_an) (c := bodyOf Try.f49) (args := [.pointer none, .int .i64 n_1]) orc orc_wide Try.func49 (by kernel_rfl) (by kernel_rfl) (Eq.mp (by kernel_rfl : words_Words_Cut_nil_sh n_1 w K = wpc orc Try.f49.ntmps words_Words_Cut_nil_an (bodyOf Try.f49) (argl 0 [.pointer none, .int .i64 n_1]) w (retQ orc Try.f49.results.toList K)) h)

-- (*holloway/words.Words).Len:nil
def words_Words_Len_nil_sh  (w : World) (K : Value → World → Prop) : Prop :=
 K (.int .i64 (0 : Int)) w
def words_Words_Len_nil_an : An := ⟨[], [], []⟩
theorem words_Words_Len_nil_lift  {w : World} {K : Value → World → Prop} (h : words_Words_Len_nil_sh  w K) : Calls Try.prog fn_words_Words_Len #[.pointer none] w fun e w' => ∃ v, e = .returned v ∧ K v w' :=
   lift_calls (A := words_Words_Len_nil_an) (c := bodyOf Try.f48) (args := [.pointer none]) orc orc_wide Try.func48 (by kernel_rfl) (by kernel_rfl) (Eq.mp (by kernel_rfl : words_Words_Len_nil_sh  w K = wpc orc Try.f48.ntmps words_Words_Len_nil_an (bodyOf Try.f48) (argl 0 [.pointer none]) w (retQ orc Try.f48.results.toList K)) h)

-- (*holloway/words.Words).All:nil
def words_Words_All_nil_sh  (w : World) (K : Value → World → Prop) : Prop :=
 K (.slice none 0 0) w
def words_Words_All_nil_an : An := ⟨[], [], []⟩
theorem words_Words_All_nil_lift  {w : World} {K : Value → World → Prop} (h : words_Words_All_nil_sh  w K) : Calls Try.prog fn_words_Words_All #[.pointer none] w fun e w' => ∃ v, e = .returned v ∧ K v w' :=
   lift_calls (A := words_Words_All_nil_an) (c := bodyOf Try.f53) (args := [.pointer none]) orc orc_wide Try.func53 (by kernel_rfl) (by kernel_rfl) (Eq.mp (by kernel_rfl : words_Words_All_nil_sh  w K = wpc orc Try.f53.ntmps words_Words_All_nil_an (bodyOf Try.f53) (argl 0 [.pointer none]) w (retQ orc Try.f53.results.toList K)) h)

-- (*holloway/words.Words).Copy:nil
def words_Words_Copy_nil_sh  (w : World) (K : Value → World → Prop) : Prop :=
 K (.pointer none) w
def words_Words_Copy_nil_an : An := ⟨[], [], []⟩
theorem words_Words_Copy_nil_lift  {w : World} {K : Value → World → Prop} (h : words_Words_Copy_nil_sh  w K) : Calls Try.prog fn_words_Words_Copy #[.pointer none] w fun e w' => ∃ v, e = .returned v ∧ K v w' :=
   lift_calls (A := words_Words_Copy_nil_an) (c := bodyOf Try.f52) (args := [.pointer none]) orc orc_wide Try.func52 (by kernel_rfl) (by kernel_rfl) (Eq.mp (by kernel_rfl : words_Words_Copy_nil_sh  w K = wpc orc Try.f52.ntmps words_Words_Copy_nil_an (bodyOf Try.f52) (argl 0 [.pointer none]) w (retQ orc Try.f52.results.toList K)) h)

end Go.Proofs.Ytijoigpggphajaa
