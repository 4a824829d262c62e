/- Functions of Hollowayref1, read without their frames; that each is enough. Printed by a program of mine (wip/lift/gen.py). -/
import Derived.Test.YtijoigpggphajaaOrc
set_option maxRecDepth 100000
namespace Go.Proofs.Ytijoigpggphajaa
open Go.RowKit

-- holloway/hollowayref1.Moves
def hollowayref1_Moves_sh (op1 : Int) (w : World) (K : Value → World → Prop) : Prop :=
 Calls Try.prog fn_hollowayref1_IsTwo #[.int .i64 op1] w fun e2 w3 => ∃ b4 : Bool, e2 = .returned (.bool b4) ∧
 brB b4
 (K (.tuple #[.int .i64 (2 : Int), .int .i64 (0 : Int), .int .i64 (1 : Int), .int .i64 (0 : Int)]) w3)
 (Calls Try.prog fn_hollowayref1_IsOne #[.int .i64 op1] w3 fun e5 w6 => ∃ b7 : Bool, e5 = .returned (.bool b7) ∧
 brB b7
 (K (.tuple #[.int .i64 (1 : Int), .int .i64 (0 : Int), .int .i64 (1 : Int), .int .i64 (0 : Int)]) w6)
 (brB (op1 == (5 : Int))
 (K (.tuple #[.int .i64 (0 : Int), .int .i64 (1 : Int), .int .i64 (0 : Int), .int .i64 (0 : Int)]) w6)
 (∃ J12 : Bool → World → Prop, (∀ (b9 : Bool) (w8 : World), J12 b9 w8 →
 brB b9
 (K (.tuple #[.int .i64 (0 : Int), .int .i64 (0 : Int), .int .i64 (1 : Int), .int .i64 (0 : Int)]) w8)
 (∃ J15 : Bool → World → Prop, (∀ (b11 : Bool) (w10 : World), J15 b11 w10 →
 brB b11
 (K (.tuple #[.int .i64 (1 : Int), .int .i64 (0 : Int), .int .i64 (0 : Int), .int .i64 (0 : Int)]) w10)
 (brB (op1 == (6 : Int))
 (K (.tuple #[.int .i64 (1 : Int), .int .i64 (0 : Int), .int .i64 (2 : Int), .int .i64 (0 : Int)]) w10)
 (brB (op1 == (8 : Int))
 (K (.tuple #[.int .i64 (2 : Int), .int .i64 (0 : Int), .int .i64 (2 : Int), .int .i64 (0 : Int)]) w10)
 (brB (op1 == (9 : Int))
 (K (.tuple #[.int .i64 (2 : Int), .int .i64 (0 : Int), .int .i64 (3 : Int), .int .i64 (0 : Int)]) w10)
 (brB (op1 == (10 : Int))
 (K (.tuple #[.int .i64 (3 : Int), .int .i64 (0 : Int), .int .i64 (3 : Int), .int .i64 (0 : Int)]) w10)
 (brB (op1 == (30 : Int))
 (K (.tuple #[.int .i64 (1 : Int), .int .i64 (0 : Int), .int .i64 (1 : Int), .int .i64 (0 : Int)]) w10)
 (∃ J31 : Bool → World → Prop, (∀ (b13 : Bool) (w12 : World), J31 b13 w12 →
 brB b13
 (K (.tuple #[.int .i64 (2 : Int), .int .i64 (0 : Int), .int .i64 (0 : Int), .int .i64 (0 : Int)]) w12)
 (∃ J34 : Bool → World → Prop, (∀ (b15 : Bool) (w14 : World), J34 b15 w14 →
 brB b15
 (K (.tuple #[.int .i64 (1 : Int), .int .i64 (0 : Int), .int .i64 (0 : Int), .int .i64 (1 : Int)]) w14)
 (brB (op1 == (34 : Int))
 (K (.tuple #[.int .i64 (0 : Int), .int .i64 (1 : Int), .int .i64 (1 : Int), .int .i64 (0 : Int)]) w14)
 (brB (op1 == (35 : Int))
 (K (.tuple #[.int .i64 (0 : Int), .int .i64 (1 : Int), .int .i64 (1 : Int), .int .i64 (1 : Int)]) w14)
 (brB (op1 == (36 : Int))
 (K (.tuple #[.int .i64 (2 : Int), .int .i64 (0 : Int), .int .i64 (0 : Int), .int .i64 (2 : Int)]) w14)
 (brB (op1 == (37 : Int))
 (K (.tuple #[.int .i64 (0 : Int), .int .i64 (2 : Int), .int .i64 (0 : Int), .int .i64 (2 : Int)]) w14)
 (brB (op1 == (38 : Int))
 (K (.tuple #[.int .i64 (1 : Int), .int .i64 (2 : Int), .int .i64 (0 : Int), .int .i64 (2 : Int)]) w14)
 (brB (op1 == (39 : Int))
 (K (.tuple #[.int .i64 (0 : Int), .int .i64 (3 : Int), .int .i64 (1 : Int), .int .i64 (3 : Int)]) w14)
 (brB (op1 == (40 : Int))
 (K (.tuple #[.int .i64 (0 : Int), .int .i64 (2 : Int), .int .i64 (0 : Int), .int .i64 (0 : Int)]) w14)
 (brB (op1 == (46 : Int))
 (K (.tuple #[.int .i64 (1 : Int), .int .i64 (0 : Int), .int .i64 (0 : Int), .int .i64 (4 : Int)]) w14)
 (K (.tuple #[.int .i64 (0 : Int), .int .i64 (0 : Int), .int .i64 (0 : Int), .int .i64 (0 : Int)]) w14)))))))))) ∧
 brB (op1 == (33 : Int))
 (J34 (op1 == (33 : Int)) w12)
 (J34 (op1 == (44 : Int)) w12))) ∧
 brB (op1 == (31 : Int))
 (J31 (op1 == (31 : Int)) w10)
 (J31 (op1 == (32 : Int)) w10)))))))) ∧
 brB (op1 == (4 : Int))
 (J15 (op1 == (4 : Int)) w8)
 (brB (op1 == (7 : Int))
 (J15 (op1 == (7 : Int)) w8)
 (brB (op1 == (41 : Int))
 (J15 (op1 == (41 : Int)) w8)
 (brB (op1 == (42 : Int))
 (J15 (op1 == (42 : Int)) w8)
 (J15 (op1 == (45 : Int)) w8)))))) ∧
 brB (op1 == (2 : Int))
 (J12 (op1 == (2 : Int)) w6)
 (J12 (op1 == (43 : Int)) w6))))
def hollowayref1_Moves_an : An := ⟨[], [], [(32, [(35, .bool)]), (29, [(32, .bool)]), (16, [(16, .bool)]), (10, [(13, .bool)])]⟩
theorem hollowayref1_Moves_lift {op1 : Int} {w : World} {K : Value → World → Prop} (h : hollowayref1_Moves_sh op1 w K) : Calls Try.prog fn_hollowayref1_Moves #[.int .i64 op1] w fun e w' => ∃ v, e = .returned v ∧ K v w' :=
   lift_calls (A := hollowayref1_Moves_an) (c := bodyOf Try.f33) (args := [.int .i64 op1]) orc orc_wide Try.func33 (by kernel_rfl) (by kernel_rfl) (Eq.mp (by kernel_rfl : hollowayref1_Moves_sh op1 w K = wpc orc Try.f33.ntmps hollowayref1_Moves_an (bodyOf Try.f33) (argl 0 [.int .i64 op1]) w (retQ orc Try.f33.results.toList K)) h)

-- holloway/hollowayref1.Same
def hollowayref1_Same_sh (a_1 : ByteArray) (b_2 : ByteArray) (w : World) (K : Value → World → Prop) : Prop :=
 Calls Try.prog fn_hollowayref1_great #[.string a_1] w fun e3 w4 => ∃ t5 : ByteArray, e3 = .returned (.string t5) ∧
 Calls Try.prog fn_hollowayref1_great #[.string b_2] w4 fun e6 w7 => ∃ t8 : ByteArray, e6 = .returned (.string t8) ∧
 K (.bool (t5.toList == t8.toList)) w7
def hollowayref1_Same_an : An := ⟨[], [], []⟩
theorem hollowayref1_Same_lift {a_1 : ByteArray} {b_2 : ByteArray} {w : World} {K : Value → World → Prop} (h : hollowayref1_Same_sh a_1 b_2 w K) : Calls Try.prog fn_hollowayref1_Same #[.string a_1, .string b_2] w fun e w' => ∃ v, e = .returned v ∧ K v w' :=
   lift_calls (A := hollowayref1_Same_an) (c := bodyOf Try.f34) (args := [.string a_1, .string b_2]) orc orc_wide Try.func34 (by kernel_rfl) (by kernel_rfl) (Eq.mp (by kernel_rfl : hollowayref1_Same_sh a_1 b_2 w K = wpc orc Try.f34.ntmps hollowayref1_Same_an (bodyOf Try.f34) (argl 0 [.string a_1, .string b_2]) w (retQ orc Try.f34.results.toList K)) h)

-- holloway/hollowayref1.Name
def hollowayref1_Name_sh (op1 : Int) (w : World) (K : Value → World → Prop) : Prop :=
 ∀ (b2 : Nat) (w3 : World), b2 = w.heap.size → w3 = World.alloc w (.cells #[.string (bs [72, 65, 76, 84]), .string (bs [69, 78, 68, 67, 65, 84, 67, 72]), .string (bs [76, 73, 84]), .string (bs [66, 82, 65, 78, 67, 72]), .string (bs [48, 66, 82, 65, 78, 67, 72]), .string (bs [69, 88, 73, 84]), .string (bs [68, 85, 80]), .string (bs [68, 82, 79, 80]), .string (bs [83, 87, 65, 80]), .string (bs [79, 86, 69, 82]), .string (bs [82, 79, 84]), .string (bs [43]), .string (bs [45]), .string (bs [42]), .string (bs [47]), .string (bs [77, 79, 68]), .string (bs [78, 69, 71, 65, 84, 69]), .string (bs [65, 78, 68]), .string (bs [79, 82]), .string (bs [88, 79, 82]), .string (bs [73, 78, 86, 69, 82, 84]), .string (bs [76, 83, 72, 73, 70, 84]), .string (bs [82, 83, 72, 73, 70, 84]), .string (bs [61]), .string (bs [60]), .string (bs [85, 60]), .string (bs [48, 61]), .string (bs [48, 60]), .string (bs [77, 73, 78]), .string (bs [77, 65, 88]), .string (bs [64]), .string (bs [33]), .string (bs [43, 33]), .string (bs [62, 82]), .string (bs [82, 62]), .string (bs [82, 64]), .string (bs [40, 68, 79, 41]), .string (bs [40, 76, 79, 79, 80, 41]), .string (bs [40, 43, 76, 79, 79, 80, 41]), .string (bs [74]), .string (bs [85, 78, 76, 79, 79, 80]), .string (bs [69, 77, 73, 84]), .string (bs [46]), .string (bs [75, 69, 89]), .string (bs [69, 88, 69, 67, 85, 84, 69]), .string (bs [84, 72, 82, 79, 87]), .string (bs [67, 65, 84, 67, 72]), .string (bs [78, 79, 80])] T_string) →
 ∃ J4 : Bool → World → Prop, (∀ (b5 : Bool) (w4 : World), J4 b5 w4 →
 brB b5
 (K (.string (bs [])) w4)
 (∃ a6 : Addr, (some ⟨b2, 0, none⟩) = some a6 ∧ 0 ≤ op1 ∧ op1 < (48 : Int) ∧
 ∃ t7 : ByteArray, w4.cell? (Addr.add a6 (Int.toNat op1 * 1)) = some (.string t7) ∧
 K (.string t7) w4)) ∧
 brB (decide (op1 < (0 : Int)))
 (J4 true w3)
 (J4 (decide (op1 ≥ (48 : Int))) w3)
def hollowayref1_Name_an : An := ⟨[], [], [(3, [(12, .bool)])]⟩
theorem hollowayref1_Name_lift {op1 : Int} {w : World} {K : Value → World → Prop} (h : hollowayref1_Name_sh op1 w K) : Calls Try.prog fn_hollowayref1_Name #[.int .i64 op1] w fun e w' => ∃ v, e = .returned v ∧ K v w' :=
   lift_calls (A := hollowayref1_Name_an) (c := bodyOf Try.f35) (args := [.int .i64 op1]) orc orc_wide Try.func35 (by kernel_rfl) (by kernel_rfl) (Eq.mp (by kernel_rfl : hollowayref1_Name_sh op1 w K = wpc orc Try.f35.ntmps hollowayref1_Name_an (bodyOf Try.f35) (argl 0 [.int .i64 op1]) w (retQ orc Try.f35.results.toList K)) h)

-- holloway/hollowayref1.Op
def hollowayref1_Op_sh (op1 : Int) (w : World) (K : Value → World → Prop) : Prop :=
 brB (decide (op1 ≥ (0 : Int)))
 (K (.bool (decide (op1 < (48 : Int)))) w)
 (K (.bool false) w)
def hollowayref1_Op_an : An := ⟨[], [], []⟩
theorem hollowayref1_Op_lift {op1 : Int} {w : World} {K : Value → World → Prop} (h : hollowayref1_Op_sh op1 w K) : Calls Try.prog fn_hollowayref1_Op #[.int .i64 op1] w fun e w' => ∃ v, e = .returned v ∧ K v w' :=
   lift_calls (A := hollowayref1_Op_an) (c := bodyOf Try.f36) (args := [.int .i64 op1]) orc orc_wide Try.func36 (by kernel_rfl) (by kernel_rfl) (Eq.mp (by kernel_rfl : hollowayref1_Op_sh op1 w K = wpc orc Try.f36.ntmps hollowayref1_Op_an (bodyOf Try.f36) (argl 0 [.int .i64 op1]) w (retQ orc Try.f36.results.toList K)) h)

-- holloway/hollowayref1.Arg
def hollowayref1_Arg_sh (op1 : Int) (w : World) (K : Value → World → Prop) : Prop :=
 brB (op1 == (2 : Int))
 (K (.bool true) w)
 (brB (op1 == (3 : Int))
 (K (.bool true) w)
 (brB (op1 == (4 : Int))
 (K (.bool true) w)
 (brB (op1 == (37 : Int))
 (K (.bool true) w)
 (K (.bool (op1 == (38 : Int))) w))))
def hollowayref1_Arg_an : An := ⟨[], [], []⟩
theorem hollowayref1_Arg_lift {op1 : Int} {w : World} {K : Value → World → Prop} (h : hollowayref1_Arg_sh op1 w K) : Calls Try.prog fn_hollowayref1_Arg #[.int .i64 op1] w fun e w' => ∃ v, e = .returned v ∧ K v w' :=
   lift_calls (A := hollowayref1_Arg_an) (c := bodyOf Try.f38) (args := [.int .i64 op1]) orc orc_wide Try.func38 (by kernel_rfl) (by kernel_rfl) (Eq.mp (by kernel_rfl : hollowayref1_Arg_sh op1 w K = wpc orc Try.f38.ntmps hollowayref1_Arg_an (bodyOf Try.f38) (argl 0 [.int .i64 op1]) w (retQ orc Try.f38.results.toList K)) h)

-- holloway/hollowayref1.Plain
def hollowayref1_Plain_sh (op1 : Int) (w : World) (K : Value → World → Prop) : Prop :=
 Calls Try.prog fn_hollowayref1_Op #[.int .i64 op1] w fun e2 w3 => ∃ b4 : Bool, e2 = .returned (.bool b4) ∧
 brB b4
 (brB (op1 != (0 : Int))
 (brB (op1 != (1 : Int))
 (brB (op1 != (45 : Int))
 (K (.bool (op1 != (46 : Int))) w3)
 (K (.bool false) w3))
 (K (.bool false) w3))
 (K (.bool false) w3))
 (K (.bool false) w3)
def hollowayref1_Plain_an : An := ⟨[], [], []⟩
theorem hollowayref1_Plain_lift {op1 : Int} {w : World} {K : Value → World → Prop} (h : hollowayref1_Plain_sh op1 w K) : Calls Try.prog fn_hollowayref1_Plain #[.int .i64 op1] w fun e w' => ∃ v, e = .returned v ∧ K v w' :=
   lift_calls (A := hollowayref1_Plain_an) (c := bodyOf Try.f40) (args := [.int .i64 op1]) orc orc_wide Try.func40 (by kernel_rfl) (by kernel_rfl) (Eq.mp (by kernel_rfl : hollowayref1_Plain_sh op1 w K = wpc orc Try.f40.ntmps hollowayref1_Plain_an (bodyOf Try.f40) (argl 0 [.int .i64 op1]) w (retQ orc Try.f40.results.toList K)) h)

-- holloway/hollowayref1.Word
def hollowayref1_Word_sh (s_1 : ByteArray) (w : World) (K : Value → World → Prop) : Prop :=
 ∃ (I1 : Int → World → Prop) (μ1 : Int → World → Nat), I1 (0 : Int) w ∧ ∀ (i3 : Int) (w2 : World), I1 i3 w2 →
 brB (decide (i3 < (s_1.size : Int)))
 (0 ≤ i3 ∧ i3 < (s_1.size : Int) ∧
 brB (decide ((sb s_1 i3) ≤ (32 : Int)))
 (K (.bool false) w2)
 (I1 (wr (i3 + (1 : Int))) w2 ∧ μ1 (wr (i3 + (1 : Int))) w2 < μ1 i3 w2))
 (brB (decide ((s_1.size : Int) ≥ (1 : Int)))
 (K (.bool (decide ((s_1.size : Int) ≤ (20 : Int)))) w2)
 (K (.bool false) w2))
def hollowayref1_Word_an : An := ⟨[(2, [(3, .int .i64)])], [], []⟩
theorem hollowayref1_Word_lift {s_1 : ByteArray} {w : World} {K : Value → World → Prop} (h : hollowayref1_Word_sh s_1 w K) : Calls Try.prog fn_hollowayref1_Word #[.string s_1] w fun e w' => ∃ v, e = .returned v ∧ K v w' :=
   lift_calls (A := hollowayref1_Word_an) (c := bodyOf Try.f47) (args := [.string s_1]) orc orc_wide Try.func47 (by kernel_rfl) (by kernel_rfl) (Eq.mp (by kernel_rfl : hollowayref1_Word_sh s_1 w K = wpc orc Try.f47.ntmps hollowayref1_Word_an (bodyOf Try.f47) (argl 0 [.string s_1]) w (retQ orc Try.f47.results.toList K)) h)

-- holloway/hollowayref1.Words
def hollowayref1_Words_j1 (J7 : Sl → World → Prop) (out10 : Sl) (op2 : Int) (b9 : Bool) (w8 : World) (_K : Value → World → Prop) : Prop :=
 brB b9
 (J7 out10 w8)
 (Calls Try.prog fn_hollowayref1_Name #[.int .i64 op2] w8 fun e11 w12 => ∃ t13 : ByteArray, e11 = .returned (.string t13) ∧
 ∀ (b14 : Nat) (w15 : World), b14 = w12.heap.size → w15 = World.alloc w12 (.cells #[.string t13, .int .i64 (wr ((64 : Int) + (wr ((2 : Int) * op2)))), .int .i64 op2, .bool false] T_api_Word) →
 ∃ s16 : Sl, ∃ w17 : World, (Builtin.append_ #[T_sl_api_Word, T_sl_api_Word] T_sl_api_Word #[out10.val, .slice (some ⟨b14, 0, none⟩) 1 1]).run Try.prog w15 = .ok (s16.val) w17 ∧
 J7 s16 w17)
def hollowayref1_Words_sh  (w : World) (K : Value → World → Prop) : Prop :=
 ∃ (I1 : Sl → Int → World → Prop) (μ1 : Sl → Int → World → Nat), I1 (⟨none, 0, 0⟩ : Sl) (0 : Int) w ∧ ∀ (out10 : Sl) (op2 : Int) (w1 : World), I1 out10 op2 w1 →
 brB (decide (op2 < (48 : Int)))
 (∃ J7 : Sl → World → Prop, (∀ (out19 : Sl) (w18 : World), J7 out19 w18 →
 I1 out19 (wr (op2 + (1 : Int))) w18 ∧ μ1 out19 (wr (op2 + (1 : Int))) w18 < μ1 out10 op2 w1) ∧
 Calls Try.prog fn_hollowayref1_Arg #[.int .i64 op2] w1 fun e3 w4 => ∃ b5 : Bool, e3 = .returned (.bool b5) ∧
 brB b5
 (hollowayref1_Words_j1 J7 out10 op2 true w4 K)
 (brB (op2 == (0 : Int))
 (hollowayref1_Words_j1 J7 out10 op2 true w4 K)
 (brB (op2 == (1 : Int))
 (hollowayref1_Words_j1 J7 out10 op2 true w4 K)
 (brB (op2 == (5 : Int))
 (hollowayref1_Words_j1 J7 out10 op2 true w4 K)
 (brB (op2 == (36 : Int))
 (hollowayref1_Words_j1 J7 out10 op2 true w4 K)
 (brB (op2 == (39 : Int))
 (hollowayref1_Words_j1 J7 out10 op2 true w4 K)
 (brB (op2 == (40 : Int))
 (hollowayref1_Words_j1 J7 out10 op2 true w4 K)
 (hollowayref1_Words_j1 J7 out10 op2 (op2 == (47 : Int)) w4 K))))))))
 (K (out10.val) w1)
def hollowayref1_Words_an : An := ⟨[(3, [(1, .sl), (2, .int .i64)])], [], [(4, [(1, .sl)])]⟩
theorem hollowayref1_Words_lift  {w : World} {K : Value → World → Prop} (h : hollowayref1_Words_sh  w K) : Calls Try.prog fn_hollowayref1_Words #[] w fun e w' => ∃ v, e = .returned v ∧ K v w' :=
   lift_calls (A := hollowayref1_Words_an) (c := bodyOf Try.f50) (args := []) orc orc_wide Try.func50 (by kernel_rfl) (by kernel_rfl) (Eq.mp (by kernel_rfl : hollowayref1_Words_sh  w K = wpc orc Try.f50.ntmps hollowayref1_Words_an (bodyOf Try.f50) (argl 0 []) w (retQ orc Try.f50.results.toList K)) h)

-- holloway/hollowayref1.Find
def hollowayref1_Find_sh (l_1 : Sl) (name2 : ByteArray) (w : World) (K : Value → World → Prop) : Prop :=
 ∃ (I1 : Int → World → Prop) (μ1 : Int → World → Nat), I1 (wr ((l_1.len : Int) - (1 : Int))) w ∧ ∀ (i4 : Int) (w3 : World), I1 i4 w3 →
 brB (decide (i4 ≥ (0 : Int)))
 (∃ a5 : Addr, l_1.ptr = some a5 ∧ 0 ≤ i4 ∧ i4 < (l_1.len : Int) ∧
 ∃ t6 : ByteArray, w3.cell? (Addr.add a5 (Int.toNat i4 * 4)) = some (.string t6) ∧
 Calls Try.prog fn_hollowayref1_Same #[.string t6, .string name2] w3 fun e7 w8 => ∃ b9 : Bool, e7 = .returned (.bool b9) ∧
 brB b9
 (K (.int .i64 i4) w8)
 (I1 (wr (i4 - (1 : Int))) w8 ∧ μ1 (wr (i4 - (1 : Int))) w8 < μ1 i4 w3))
 (K (.int .i64 (-1 : Int)) w3)
def hollowayref1_Find_an : An := ⟨[(2, [(5, .int .i64)])], [], []⟩
theorem hollowayref1_Find_lift {l_1 : Sl} {name2 : ByteArray} {w : World} {K : Value → World → Prop} (h : hollowayref1_Find_sh l_1 name2 w K) : Calls Try.prog fn_hollowayref1_Find #[l_1.val, .string name2] w fun e w' => ∃ v, e = .returned v ∧ K v w' :=
   lift_calls (A := hollowayref1_Find_an) (c := bodyOf Try.f55) (args := [l_1.val, .string name2]) orc orc_wide Try.func55 (by kernel_rfl) (by kernel_rfl) (Eq.mp (by kernel_rfl : hollowayref1_Find_sh l_1 name2 w K = wpc orc Try.f55.ntmps hollowayref1_Find_an (bodyOf Try.f55) (argl 0 [l_1.val, .string name2]) w (retQ orc Try.f55.results.toList K)) h)

-- holloway/hollowayref1.IsTwo
def hollowayref1_IsTwo_sh (op1 : Int) (w : World) (K : Value → World → Prop) : Prop :=
 brB (decide (op1 ≥ (11 : Int)))
 (brB (decide (op1 ≤ (15 : Int)))
 (K (.bool true) w)
 (brB (decide (op1 ≥ (17 : Int)))
 (brB (decide (op1 ≤ (19 : Int)))
 (K (.bool true) w)
 (brB (decide (op1 ≥ (21 : Int)))
 (brB (decide (op1 ≤ (25 : Int)))
 (K (.bool true) w)
 (brB (op1 == (28 : Int))
 (K (.bool true) w)
 (K (.bool (op1 == (29 : Int))) w)))
 (brB (op1 == (28 : Int))
 (K (.bool true) w)
 (K (.bool (op1 == (29 : Int))) w))))
 (brB (decide (op1 ≥ (21 : Int)))
 (brB (decide (op1 ≤ (25 : Int)))
 (K (.bool true) w)
 (brB (op1 == (28 : Int))
 (K (.bool true) w)
 (K (.bool (op1 == (29 : Int))) w)))
 (brB (op1 == (28 : Int))
 (K (.bool true) w)
 (K (.bool (op1 == (29 : Int))) w)))))
 (brB (decide (op1 ≥ (17 : Int)))
 (brB (decide (op1 ≤ (19 : Int)))
 (K (.bool true) w)
 (brB (decide (op1 ≥ (21 : Int)))
 (brB (decide (op1 ≤ (25 : Int)))
 (K (.bool true) w)
 (brB (op1 == (28 : Int))
 (K (.bool true) w)
 (K (.bool (op1 == (29 : Int))) w)))
 (brB (op1 == (28 : Int))
 (K (.bool true) w)
 (K (.bool (op1 == (29 : Int))) w))))
 (brB (decide (op1 ≥ (21 : Int)))
 (brB (decide (op1 ≤ (25 : Int)))
 (K (.bool true) w)
 (brB (op1 == (28 : Int))
 (K (.bool true) w)
 (K (.bool (op1 == (29 : Int))) w)))
 (brB (op1 == (28 : Int))
 (K (.bool true) w)
 (K (.bool (op1 == (29 : Int))) w))))
def hollowayref1_IsTwo_an : An := ⟨[], [], []⟩
theorem hollowayref1_IsTwo_lift {op1 : Int} {w : World} {K : Value → World → Prop} (h : hollowayref1_IsTwo_sh op1 w K) : Calls Try.prog fn_hollowayref1_IsTwo #[.int .i64 op1] w fun e w' => ∃ v, e = .returned v ∧ K v w' :=
   lift_calls (A := hollowayref1_IsTwo_an) (c := bodyOf Try.f93) (args := [.int .i64 op1]) orc orc_wide Try.func93 (by kernel_rfl) (by kernel_rfl) (Eq.mp (by kernel_rfl : hollowayref1_IsTwo_sh op1 w K = wpc orc Try.f93.ntmps hollowayref1_IsTwo_an (bodyOf Try.f93) (argl 0 [.int .i64 op1]) w (retQ orc Try.f93.results.toList K)) h)

-- holloway/hollowayref1.IsOne
def hollowayref1_IsOne_sh (op1 : Int) (w : World) (K : Value → World → Prop) : Prop :=
 brB (op1 == (16 : Int))
 (K (.bool true) w)
 (brB (op1 == (20 : Int))
 (K (.bool true) w)
 (brB (op1 == (26 : Int))
 (K (.bool true) w)
 (K (.bool (op1 == (27 : Int))) w)))
def hollowayref1_IsOne_an : An := ⟨[], [], []⟩
theorem hollowayref1_IsOne_lift {op1 : Int} {w : World} {K : Value → World → Prop} (h : hollowayref1_IsOne_sh op1 w K) : Calls Try.prog fn_hollowayref1_IsOne #[.int .i64 op1] w fun e w' => ∃ v, e = .returned v ∧ K v w' :=
   lift_calls (A := hollowayref1_IsOne_an) (c := bodyOf Try.f94) (args := [.int .i64 op1]) orc orc_wide Try.func94 (by kernel_rfl) (by kernel_rfl) (Eq.mp (by kernel_rfl : hollowayref1_IsOne_sh op1 w K = wpc orc Try.f94.ntmps hollowayref1_IsOne_an (bodyOf Try.f94) (argl 0 [.int .i64 op1]) w (retQ orc Try.f94.results.toList K)) h)

-- holloway/hollowayref1.great
def hollowayref1_great_sh (s_1 : ByteArray) (w : World) (K : Value → World → Prop) : Prop :=
 ∃ s2 : Sl, ∃ w3 : World, (convert T_string T_sl_uint8 (.string s_1)).run Try.prog w = .ok (s2.val) w3 ∧
 ∃ (I1 : Int → World → Prop) (μ1 : Int → World → Nat), I1 (0 : Int) w3 ∧ ∀ (i5 : Int) (w4 : World), I1 i5 w4 →
 brB (decide (i5 < (s2.len : Int)))
 (∃ J7 : World → Prop, (∀ (w16 : World), J7  w16 →
 I1 (wr (i5 + (1 : Int))) w16 ∧ μ1 (wr (i5 + (1 : Int))) w16 < μ1 i5 w4) ∧
 ∃ J8 : Bool → World → Prop, (∀ (b11 : Bool) (w10 : World), J8 b11 w10 →
 brB b11
 (∃ a12 : Addr, s2.ptr = some a12 ∧ 0 ≤ i5 ∧ i5 < (s2.len : Int) ∧
 ∃ n13 : Int, w10.cell? (Addr.add a12 (Int.toNat i5 * 1)) = some (.int .u8 n13) ∧
 ∃ a14 : Addr, s2.ptr = some a14 ∧ 0 ≤ i5 ∧ i5 < (s2.len : Int) ∧
 wrOk w10 (Addr.add a14 (Int.toNat i5 * 1)) 1 ∧ ∀ w15 : World, w15 = stW w10 (Addr.add a14 (Int.toNat i5 * 1)) 0 [.int .u8 (IntKind.wrap .u8 (n13 - (32 : Int)))] →
 J7  w15)
 (J7  w10)) ∧
 ∃ a6 : Addr, s2.ptr = some a6 ∧ 0 ≤ i5 ∧ i5 < (s2.len : Int) ∧
 ∃ n7 : Int, w4.cell? (Addr.add a6 (Int.toNat i5 * 1)) = some (.int .u8 n7) ∧
 brB (decide (n7 ≥ (97 : Int)))
 (∃ a8 : Addr, s2.ptr = some a8 ∧ 0 ≤ i5 ∧ i5 < (s2.len : Int) ∧
 ∃ n9 : Int, w4.cell? (Addr.add a8 (Int.toNat i5 * 1)) = some (.int .u8 n9) ∧
 J8 (decide (n9 ≤ (122 : Int))) w4)
 (J8 false w4))
 (∃ t17 : ByteArray, ∃ w18 : World, (convert T_sl_uint8 T_string (s2.val)).run Try.prog w4 = .ok (.string t17) w18 ∧
 K (.string t17) w18)
def hollowayref1_great_an : An := ⟨[(3, [(4, .int .i64)])], [], [(6, [(24, .bool)]), (4, [])]⟩
theorem hollowayref1_great_lift {s_1 : ByteArray} {w : World} {K : Value → World → Prop} (h : hollowayref1_great_sh s_1 w K) : Calls Try.prog fn_hollowayref1_great #[.string s_1] w fun e w' => ∃ v, e = .returned v ∧ K v w' :=
   lift_calls (A := hollowayref1_great_an) (c := bodyOf Try.f95) (args := [.string s_1]) orc orc_wide Try.func95 (by kernel_rfl) (by kernel_rfl) (Eq.mp (by kernel_rfl : hollowayref1_great_sh s_1 w K = wpc orc Try.f95.ntmps hollowayref1_great_an (bodyOf Try.f95) (argl 0 [.string s_1]) w (retQ orc Try.f95.results.toList K)) h)

end Go.Proofs.Ytijoigpggphajaa
