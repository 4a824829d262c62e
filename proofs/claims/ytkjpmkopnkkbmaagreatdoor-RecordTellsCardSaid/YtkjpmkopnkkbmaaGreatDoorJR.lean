/- The lifted texts of the packages hollowayref9 and hollowaylaw9. -/
import Derived.Test.YtkjpmkopnkkbmaaGreatDoorJ4

/- Functions of Hollowayref9, read without their frames; that each is enough. Printed by a program of mine (wip/lift/gen.py). -/
set_option maxRecDepth 100000
namespace Go.Proofs.YtkjpmkopnkkbmaaGreatDoor
open Go.RowKit

def hollowayref9_Boot_sh (n_1 : Int) (in_2 : ByteArray) (w : World) (K : Value → World → Prop) : Prop :=
 ∀ (b3 : Nat) (w4 : World), b3 = w.heap.size → w4 = World.alloc w (.cells #[.int .i64 (0 : Int), .int .i64 (0 : Int), .slice none 0 0, .slice none 0 0, .slice none 0 0, .string (bs []), .string (bs []), .int .i64 (0 : Int), .int .i64 (0 : Int), .int .i64 (0 : Int)] T_api_State) →
 ∃ s5 : Sl, ∃ w6 : World, (Instr.makeSlice T_sl_int (.int .i64 (imin (imax n_1 (0 : Int)) (3000 : Int))) (.int .i64 (imin (imax n_1 (0 : Int)) (3000 : Int)))).run Tryz.prog w4 = .ok s5.val w6 ∧
 ∃ (I1 : Int → World → Prop) (μ1 : Int → World → Nat), I1 (0 : Int) w6 ∧ ∀ (k8 : Int) (w7 : World), I1 k8 w7 →
 brB (decide (k8 < (s5.len : Int)))
 (∃ J7 : World → Prop, (∀ (w18 : World), J7  w18 →
 I1 (wr (k8 + (1 : Int))) w18 ∧ μ1 (wr (k8 + (1 : Int))) w18 < μ1 k8 w7) ∧
 ∃ J8 : World → Prop, (∀ (w11 : World), J8  w11 →
 ∃ J10 : Bool → World → Prop, (∀ (b13 : Bool) (w12 : World), J10 b13 w12 →
 brB b13
 (∃ a14 : Addr, s5.ptr = some a14 ∧ 0 ≤ k8 ∧ k8 < (s5.len : Int) ∧
 wrOk w12 (Addr.add a14 (Int.toNat k8 * 1)) 1 ∧ ∀ w15 : World, w15 = stW w12 (Addr.add a14 (Int.toNat k8 * 1)) 0 [.int .i64 (5 : Int)] →
 (2 : Int) ≠ 0 ∧ brB ((Int.tmod k8 (2 : Int)) == (0 : Int))
 ((2 : Int) ≠ 0 ∧ ∃ a16 : Addr, s5.ptr = some a16 ∧ 0 ≤ k8 ∧ k8 < (s5.len : Int) ∧
 wrOk w15 (Addr.add a16 (Int.toNat k8 * 1)) 1 ∧ ∀ w17 : World, w17 = stW w15 (Addr.add a16 (Int.toNat k8 * 1)) 0 [.int .i64 (wr (Int.tdiv (wr (k8 - (64 : Int))) (2 : Int)))] →
 J7  w17)
 (J7  w15))
 (J7  w12)) ∧
 brB (decide (k8 ≥ (64 : Int)))
 (J10 (decide (k8 < (160 : Int))) w11)
 (J10 false w11)) ∧
 brB (k8 == (1 : Int))
 (∃ a9 : Addr, s5.ptr = some a9 ∧ 0 ≤ k8 ∧ k8 < (s5.len : Int) ∧
 wrOk w7 (Addr.add a9 (Int.toNat k8 * 1)) 1 ∧ ∀ w10 : World, w10 = stW w7 (Addr.add a9 (Int.toNat k8 * 1)) 0 [.int .i64 (1 : Int)] →
 J8  w10)
 (J8  w7))
 (wrOk w7 ⟨b3, 0, none⟩ 10 ∧ ∀ w19 : World, w19 = stW w7 ⟨b3, 0, none⟩ 0 [.int .i64 (0 : Int), .int .i64 (0 : Int), .slice none 0 0, .slice none 0 0, s5.val, .string (bs []), .string in_2, .int .i64 (0 : Int), .int .i64 (1 : Int), .int .i64 (0 : Int)] →
 ∃ r20 r21 : Int, ∃ r22 r23 r24 : Sl, ∃ r25 r26 : ByteArray, ∃ r27 r28 r29 : Int, w19.cell? ⟨b3, 0, none⟩ = some (.int .i64 r20) ∧ w19.cell? ⟨b3, 1, none⟩ = some (.int .i64 r21) ∧ w19.cell? ⟨b3, 2, none⟩ = some (r22.val) ∧ w19.cell? ⟨b3, 3, none⟩ = some (r23.val) ∧ w19.cell? ⟨b3, 4, none⟩ = some (r24.val) ∧ w19.cell? ⟨b3, 5, none⟩ = some (.string r25) ∧ w19.cell? ⟨b3, 6, none⟩ = some (.string r26) ∧ w19.cell? ⟨b3, 7, none⟩ = some (.int .i64 r27) ∧ w19.cell? ⟨b3, 8, none⟩ = some (.int .i64 r28) ∧ w19.cell? ⟨b3, 9, none⟩ = some (.int .i64 r29) ∧
 K (.agg #[.int .i64 r20, .int .i64 r21, r22.val, r23.val, r24.val, .string r25, .string r26, .int .i64 r27, .int .i64 r28, .int .i64 r29]) w19)
def hollowayref9_Boot_an : An := ⟨[(3, [(6, .int .i64)])], [], [(8, [(27, .bool)]), (7, []), (4, [])]⟩
theorem hollowayref9_Boot_lift {n_1 : Int} {in_2 : ByteArray} {w : World} {K : Value → World → Prop} (h : hollowayref9_Boot_sh n_1 in_2 w K) : Calls Tryz.prog fn_hollowayref9_Boot #[.int .i64 n_1, .string in_2] w fun e w' => ∃ v, e = .returned v ∧ K v w' :=
   lift_calls (A := hollowayref9_Boot_an) (c := bodyOf Tryz.f12) (args := [.int .i64 n_1, .string in_2]) orc orc_wide Tryz.func12 (by kernel_rfl) (by kernel_rfl) (Eq.mp (by kernel_rfl : hollowayref9_Boot_sh n_1 in_2 w K = wpc orc Tryz.f12.ntmps hollowayref9_Boot_an (bodyOf Tryz.f12) (argl 0 [.int .i64 n_1, .string in_2]) w (retQ orc Tryz.f12.results.toList K)) h)

def hollowayref9_Right_sh (s1 : Int) (s2 : Int) (s3 : Sl) (s4 : Sl) (s5 : Sl) (s6 : ByteArray) (s7 : ByteArray) (s8 : Int) (s9 : Int) (s10 : Int) (w : World) (K : Value → World → Prop) : Prop :=
 ∀ (b11 : Nat) (w12 : World), b11 = w.heap.size → w12 = World.alloc w (.cells #[.int .i64 s1, .int .i64 s2, s3.val, s4.val, s5.val, .string s6, .string s7, .int .i64 s8, .int .i64 s9, .int .i64 s10] T_api_State) →
 ∃ s13 : Sl, w12.cell? ⟨b11, 2, none⟩ = some (s13.val) ∧
 brB (decide ((s13.len : Int) ≤ (48 : Int)))
 (∃ s14 : Sl, w12.cell? ⟨b11, 3, none⟩ = some (s14.val) ∧
 brB (decide ((s14.len : Int) ≤ (48 : Int)))
 (∃ s15 : Sl, w12.cell? ⟨b11, 4, none⟩ = some (s15.val) ∧
 brB (decide ((s15.len : Int) ≤ (3000 : Int)))
 (∃ t16 : ByteArray, w12.cell? ⟨b11, 5, none⟩ = some (.string t16) ∧
 brB (decide ((t16.size : Int) ≤ (2000 : Int)))
 (∃ n17 : Int, w12.cell? ⟨b11, 7, none⟩ = some (.int .i64 n17) ∧
 brB (decide (n17 ≥ (0 : Int)))
 (∃ n18 : Int, w12.cell? ⟨b11, 7, none⟩ = some (.int .i64 n18) ∧
 ∃ t19 : ByteArray, w12.cell? ⟨b11, 6, none⟩ = some (.string t19) ∧
 brB (decide (n18 ≤ (t19.size : Int)))
 (∃ n20 : Int, w12.cell? ⟨b11, 8, none⟩ = some (.int .i64 n20) ∧
 brB (decide (n20 ≥ (0 : Int)))
 (∃ n21 : Int, w12.cell? ⟨b11, 8, none⟩ = some (.int .i64 n21) ∧
 K (.bool (decide (n21 ≤ (2 : Int)))) w12)
 (K (.bool false) w12))
 (K (.bool false) w12))
 (K (.bool false) w12))
 (K (.bool false) w12))
 (K (.bool false) w12))
 (K (.bool false) w12))
 (K (.bool false) w12)
def hollowayref9_Right_an : An := ⟨[], [], []⟩
theorem hollowayref9_Right_lift {s1 : Int} {s2 : Int} {s3 : Sl} {s4 : Sl} {s5 : Sl} {s6 : ByteArray} {s7 : ByteArray} {s8 : Int} {s9 : Int} {s10 : Int} {w : World} {K : Value → World → Prop} (h : hollowayref9_Right_sh s1 s2 s3 s4 s5 s6 s7 s8 s9 s10 w K) : Calls Tryz.prog fn_hollowayref9_Right #[.agg #[.int .i64 s1, .int .i64 s2, s3.val, s4.val, s5.val, .string s6, .string s7, .int .i64 s8, .int .i64 s9, .int .i64 s10]] w fun e w' => ∃ v, e = .returned v ∧ K v w' :=
   lift_calls (A := hollowayref9_Right_an) (c := bodyOf Tryz.f14) (args := [.agg #[.int .i64 s1, .int .i64 s2, s3.val, s4.val, s5.val, .string s6, .string s7, .int .i64 s8, .int .i64 s9, .int .i64 s10]]) orc orc_wide Tryz.func14 (by kernel_rfl) (by kernel_rfl) (Eq.mp (by kernel_rfl : hollowayref9_Right_sh s1 s2 s3 s4 s5 s6 s7 s8 s9 s10 w K = wpc orc Tryz.f14.ntmps hollowayref9_Right_an (bodyOf Tryz.f14) (argl 0 [.agg #[.int .i64 s1, .int .i64 s2, s3.val, s4.val, s5.val, .string s6, .string s7, .int .i64 s8, .int .i64 s9, .int .i64 s10]]) w (retQ orc Tryz.f14.results.toList K)) h)

def hollowayref9_Enter_sh (s1 : Int) (s2 : Int) (s3 : Sl) (s4 : Sl) (s5 : Sl) (s6 : ByteArray) (s7 : ByteArray) (s8 : Int) (s9 : Int) (s10 : Int) (xt11 : Int) (w : World) (K : Value → World → Prop) : Prop :=
 ∀ (b12 : Nat) (w13 : World), b12 = w.heap.size → w13 = World.alloc w (.cells #[.int .i64 s1, .int .i64 s2, s3.val, s4.val, s5.val, .string s6, .string s7, .int .i64 s8, .int .i64 s9, .int .i64 s10] T_api_State) →
 ∀ (b14 : Nat) (w15 : World), b14 = w13.heap.size → w15 = World.alloc w13 (.cells #[.int .i64 (0 : Int), .int .i64 (0 : Int), .slice none 0 0, .slice none 0 0, .slice none 0 0, .string (bs []), .string (bs []), .int .i64 (0 : Int), .int .i64 (0 : Int), .int .i64 (0 : Int)] T_api_State) →
 ∀ (b16 : Nat) (w17 : World), b16 = w15.heap.size → w17 = World.alloc w15 (.cells #[.int .i64 (0 : Int)] T_int) →
 wrOk w17 ⟨b12, 0, none⟩ 1 ∧ ∀ w18 : World, w18 = stW w17 ⟨b12, 0, none⟩ 0 [.int .i64 xt11] →
 wrOk w18 ⟨b12, 1, none⟩ 1 ∧ ∀ w19 : World, w19 = stW w18 ⟨b12, 1, none⟩ 0 [.int .i64 (0 : Int)] →
 wrOk w19 ⟨b12, 3, none⟩ 1 ∧ ∀ w20 : World, w20 = stW w19 ⟨b12, 3, none⟩ 0 [.slice (some ⟨b16, 0, none⟩) 1 1] →
 wrOk w20 ⟨b12, 8, none⟩ 1 ∧ ∀ w21 : World, w21 = stW w20 ⟨b12, 8, none⟩ 0 [.int .i64 (0 : Int)] →
 wrOk w21 ⟨b12, 9, none⟩ 1 ∧ ∀ w22 : World, w22 = stW w21 ⟨b12, 9, none⟩ 0 [.int .i64 (0 : Int)] →
 ∃ n23 n24 : Int, ∃ s25 s26 s27 : Sl, ∃ t28 t29 : ByteArray, ∃ n30 n31 n32 : Int, w22.cell? ⟨b12, 0, none⟩ = some (.int .i64 n23) ∧ w22.cell? ⟨b12, 1, none⟩ = some (.int .i64 n24) ∧ w22.cell? ⟨b12, 2, none⟩ = some (s25.val) ∧ w22.cell? ⟨b12, 3, none⟩ = some (s26.val) ∧ w22.cell? ⟨b12, 4, none⟩ = some (s27.val) ∧ w22.cell? ⟨b12, 5, none⟩ = some (.string t28) ∧ w22.cell? ⟨b12, 6, none⟩ = some (.string t29) ∧ w22.cell? ⟨b12, 7, none⟩ = some (.int .i64 n30) ∧ w22.cell? ⟨b12, 8, none⟩ = some (.int .i64 n31) ∧ w22.cell? ⟨b12, 9, none⟩ = some (.int .i64 n32) ∧
 wrOk w22 ⟨b14, 0, none⟩ 10 ∧ ∀ w33 : World, w33 = stW w22 ⟨b14, 0, none⟩ 0 [.int .i64 n23, .int .i64 n24, s25.val, s26.val, s27.val, .string t28, .string t29, .int .i64 n30, .int .i64 n31, .int .i64 n32] →
 ∃ r34 r35 : Int, ∃ r36 r37 r38 : Sl, ∃ r39 r40 : ByteArray, ∃ r41 r42 r43 : Int, w33.cell? ⟨b14, 0, none⟩ = some (.int .i64 r34) ∧ w33.cell? ⟨b14, 1, none⟩ = some (.int .i64 r35) ∧ w33.cell? ⟨b14, 2, none⟩ = some (r36.val) ∧ w33.cell? ⟨b14, 3, none⟩ = some (r37.val) ∧ w33.cell? ⟨b14, 4, none⟩ = some (r38.val) ∧ w33.cell? ⟨b14, 5, none⟩ = some (.string r39) ∧ w33.cell? ⟨b14, 6, none⟩ = some (.string r40) ∧ w33.cell? ⟨b14, 7, none⟩ = some (.int .i64 r41) ∧ w33.cell? ⟨b14, 8, none⟩ = some (.int .i64 r42) ∧ w33.cell? ⟨b14, 9, none⟩ = some (.int .i64 r43) ∧
 K (.agg #[.int .i64 r34, .int .i64 r35, r36.val, r37.val, r38.val, .string r39, .string r40, .int .i64 r41, .int .i64 r42, .int .i64 r43]) w33
def hollowayref9_Enter_an : An := ⟨[], [], []⟩
theorem hollowayref9_Enter_lift {s1 : Int} {s2 : Int} {s3 : Sl} {s4 : Sl} {s5 : Sl} {s6 : ByteArray} {s7 : ByteArray} {s8 : Int} {s9 : Int} {s10 : Int} {xt11 : Int} {w : World} {K : Value → World → Prop} (h : hollowayref9_Enter_sh s1 s2 s3 s4 s5 s6 s7 s8 s9 s10 xt11 w K) : Calls Tryz.prog fn_hollowayref9_Enter #[.agg #[.int .i64 s1, .int .i64 s2, s3.val, s4.val, s5.val, .string s6, .string s7, .int .i64 s8, .int .i64 s9, .int .i64 s10], .int .i64 xt11] w fun e w' => ∃ v, e = .returned v ∧ K v w' :=
   lift_calls (A := hollowayref9_Enter_an) (c := bodyOf Tryz.f19) (args := [.agg #[.int .i64 s1, .int .i64 s2, s3.val, s4.val, s5.val, .string s6, .string s7, .int .i64 s8, .int .i64 s9, .int .i64 s10], .int .i64 xt11]) orc orc_wide Tryz.func19 (by kernel_rfl) (by kernel_rfl) (Eq.mp (by kernel_rfl : hollowayref9_Enter_sh s1 s2 s3 s4 s5 s6 s7 s8 s9 s10 xt11 w K = wpc orc Tryz.f19.ntmps hollowayref9_Enter_an (bodyOf Tryz.f19) (argl 0 [.agg #[.int .i64 s1, .int .i64 s2, s3.val, s4.val, s5.val, .string s6, .string s7, .int .i64 s8, .int .i64 s9, .int .i64 s10], .int .i64 xt11]) w (retQ orc Tryz.f19.results.toList K)) h)

def hollowayref9_Fault_sh (s1 : Int) (s2 : Int) (s3 : Sl) (s4 : Sl) (s5 : Sl) (s6 : ByteArray) (s7 : ByteArray) (s8 : Int) (s9 : Int) (s10 : Int) (code11 : Int) (w : World) (K : Value → World → Prop) : Prop :=
 ∀ (b12 : Nat) (w13 : World), b12 = w.heap.size → w13 = World.alloc w (.cells #[.int .i64 s1, .int .i64 s2, s3.val, s4.val, s5.val, .string s6, .string s7, .int .i64 s8, .int .i64 s9, .int .i64 s10] T_api_State) →
 ∀ (b14 : Nat) (w15 : World), b14 = w13.heap.size → w15 = World.alloc w13 (.cells #[.int .i64 (0 : Int), .int .i64 (0 : Int), .slice none 0 0, .slice none 0 0, .slice none 0 0, .string (bs []), .string (bs []), .int .i64 (0 : Int), .int .i64 (0 : Int), .int .i64 (0 : Int)] T_api_State) →
 ∃ n16 : Int, w15.cell? ⟨b12, 1, none⟩ = some (.int .i64 n16) ∧
 ∃ J4 : Bool → World → Prop, (∀ (b25 : Bool) (w24 : World), J4 b25 w24 →
 brB b25
 (∃ s26 : Sl, w24.cell? ⟨b12, 3, none⟩ = some (s26.val) ∧
 ∃ a27 : Addr, s26.ptr = some a27 ∧ 0 ≤ (wr (n16 - (1 : Int))) ∧ (wr (n16 - (1 : Int))) < (s26.len : Int) ∧
 ∃ n28 : Int, w24.cell? (Addr.add a27 (Int.toNat (wr (n16 - (1 : Int))) * 1)) = some (.int .i64 n28) ∧
 ∀ w29 : World, w29 = World.drew w24 →
 ∃ S30 : World → Prop, S30 w29 ∧
 ∃ s31 : Sl, held S30 ⟨b12, 3, none⟩ (s31.val) ∧
 ∃ a32 : Addr, s31.ptr = some a32 ∧ 0 ≤ (wr (n16 - (2 : Int))) ∧ (wr (n16 - (2 : Int))) < (s31.len : Int) ∧
 ∃ n33 : Int, held S30 (Addr.add a32 (Int.toNat (wr (n16 - (2 : Int))) * 1)) (.int .i64 n33) ∧
 ∃ s34 : Sl, held S30 ⟨b12, 3, none⟩ (s34.val) ∧
 ∃ a35 : Addr, s34.ptr = some a35 ∧ 0 ≤ (wr (n16 - (3 : Int))) ∧ (wr (n16 - (3 : Int))) < (s34.len : Int) ∧
 ∃ n36 : Int, held S30 (Addr.add a35 (Int.toNat (wr (n16 - (3 : Int))) * 1)) (.int .i64 n36) ∧
 wrOk w29 ⟨b12, 1, none⟩ 1 ∧ ∀ w37 : World, w37 = stW w29 ⟨b12, 1, none⟩ 0 [.int .i64 n33] →
 S30 w37 ∧
 wrOk w37 ⟨b12, 0, none⟩ 1 ∧ ∀ w38 : World, w38 = stW w37 ⟨b12, 0, none⟩ 0 [.int .i64 n36] →
 ∃ s39 : Sl, w38.cell? ⟨b12, 3, none⟩ = some (s39.val) ∧
 0 ≤ (wr (n16 - (3 : Int))) ∧ (wr (n16 - (3 : Int))) ≤ (s39.cap : Int) ∧ ∀ s40 : Sl, s40 = Sl.sub s39.ptr s39.cap 0 (Int.toNat (wr (n16 - (3 : Int)))) 1 →
 ∃ s41 : Sl, ∃ w42 : World, (Builtin.append_ #[T_sl_int, T_sl_int] T_sl_int #[.slice none 0 0, s40.val]).run Tryz.prog w38 = .ok (s41.val) w42 ∧
 wrOk w42 ⟨b12, 3, none⟩ 1 ∧ ∀ w43 : World, w43 = stW w42 ⟨b12, 3, none⟩ 0 [s41.val] →
 ∃ s44 : Sl, w43.cell? ⟨b12, 2, none⟩ = some (s44.val) ∧
 ∃ s45 : Sl, w43.cell? ⟨b12, 2, none⟩ = some (s45.val) ∧
 0 ≤ (imin n28 (s45.len : Int)) ∧ (imin n28 (s45.len : Int)) ≤ (s44.cap : Int) ∧ ∀ s46 : Sl, s46 = Sl.sub s44.ptr s44.cap 0 (Int.toNat (imin n28 (s45.len : Int))) 1 →
 ∃ s47 : Sl, ∃ w48 : World, (Builtin.append_ #[T_sl_int, T_sl_int] T_sl_int #[.slice none 0 0, s46.val]).run Tryz.prog w43 = .ok (s47.val) w48 ∧
 ∃ (I1 : Sl → World → Prop) (μ1 : Sl → World → Nat), I1 s47 w48 ∧ ∀ (l50 : Sl) (w49 : World), I1 l50 w49 →
 brB (decide ((l50.len : Int) < n28))
 (∀ (b51 : Nat) (w52 : World), b51 = w49.heap.size → w52 = World.alloc w49 (.cells #[.int .i64 (0 : Int)] T_int) →
 ∃ s53 : Sl, ∃ w54 : World, (Builtin.append_ #[T_sl_int, T_sl_int] T_sl_int #[l50.val, .slice (some ⟨b51, 0, none⟩) 1 1]).run Tryz.prog w52 = .ok (s53.val) w54 ∧
 I1 s53 w54 ∧ μ1 s53 w54 < μ1 l50 w49)
 (∀ (b55 : Nat) (w56 : World), b55 = w49.heap.size → w56 = World.alloc w49 (.cells #[.int .i64 code11] T_int) →
 ∃ s57 : Sl, ∃ w58 : World, (Builtin.append_ #[T_sl_int, T_sl_int] T_sl_int #[l50.val, .slice (some ⟨b55, 0, none⟩) 1 1]).run Tryz.prog w56 = .ok (s57.val) w58 ∧
 wrOk w58 ⟨b12, 2, none⟩ 1 ∧ ∀ w59 : World, w59 = stW w58 ⟨b12, 2, none⟩ 0 [s57.val] →
 ∃ n60 n61 : Int, ∃ s62 s63 s64 : Sl, ∃ t65 t66 : ByteArray, ∃ n67 n68 n69 : Int, w59.cell? ⟨b12, 0, none⟩ = some (.int .i64 n60) ∧ w59.cell? ⟨b12, 1, none⟩ = some (.int .i64 n61) ∧ w59.cell? ⟨b12, 2, none⟩ = some (s62.val) ∧ w59.cell? ⟨b12, 3, none⟩ = some (s63.val) ∧ w59.cell? ⟨b12, 4, none⟩ = some (s64.val) ∧ w59.cell? ⟨b12, 5, none⟩ = some (.string t65) ∧ w59.cell? ⟨b12, 6, none⟩ = some (.string t66) ∧ w59.cell? ⟨b12, 7, none⟩ = some (.int .i64 n67) ∧ w59.cell? ⟨b12, 8, none⟩ = some (.int .i64 n68) ∧ w59.cell? ⟨b12, 9, none⟩ = some (.int .i64 n69) ∧
 wrOk w59 ⟨b14, 0, none⟩ 10 ∧ ∀ w70 : World, w70 = stW w59 ⟨b14, 0, none⟩ 0 [.int .i64 n60, .int .i64 n61, s62.val, s63.val, s64.val, .string t65, .string t66, .int .i64 n67, .int .i64 n68, .int .i64 n69] →
 ∃ r71 r72 : Int, ∃ r73 r74 r75 : Sl, ∃ r76 r77 : ByteArray, ∃ r78 r79 r80 : Int, w70.cell? ⟨b14, 0, none⟩ = some (.int .i64 r71) ∧ w70.cell? ⟨b14, 1, none⟩ = some (.int .i64 r72) ∧ w70.cell? ⟨b14, 2, none⟩ = some (r73.val) ∧ w70.cell? ⟨b14, 3, none⟩ = some (r74.val) ∧ w70.cell? ⟨b14, 4, none⟩ = some (r75.val) ∧ w70.cell? ⟨b14, 5, none⟩ = some (.string r76) ∧ w70.cell? ⟨b14, 6, none⟩ = some (.string r77) ∧ w70.cell? ⟨b14, 7, none⟩ = some (.int .i64 r78) ∧ w70.cell? ⟨b14, 8, none⟩ = some (.int .i64 r79) ∧ w70.cell? ⟨b14, 9, none⟩ = some (.int .i64 r80) ∧
 K (.agg #[.int .i64 r71, .int .i64 r72, r73.val, r74.val, r75.val, .string r76, .string r77, .int .i64 r78, .int .i64 r79, .int .i64 r80]) w70))
 (wrOk w24 ⟨b12, 8, none⟩ 1 ∧ ∀ w81 : World, w81 = stW w24 ⟨b12, 8, none⟩ 0 [.int .i64 (2 : Int)] →
 wrOk w81 ⟨b12, 9, none⟩ 1 ∧ ∀ w82 : World, w82 = stW w81 ⟨b12, 9, none⟩ 0 [.int .i64 code11] →
 ∃ n83 n84 : Int, ∃ s85 s86 s87 : Sl, ∃ t88 t89 : ByteArray, ∃ n90 n91 n92 : Int, w82.cell? ⟨b12, 0, none⟩ = some (.int .i64 n83) ∧ w82.cell? ⟨b12, 1, none⟩ = some (.int .i64 n84) ∧ w82.cell? ⟨b12, 2, none⟩ = some (s85.val) ∧ w82.cell? ⟨b12, 3, none⟩ = some (s86.val) ∧ w82.cell? ⟨b12, 4, none⟩ = some (s87.val) ∧ w82.cell? ⟨b12, 5, none⟩ = some (.string t88) ∧ w82.cell? ⟨b12, 6, none⟩ = some (.string t89) ∧ w82.cell? ⟨b12, 7, none⟩ = some (.int .i64 n90) ∧ w82.cell? ⟨b12, 8, none⟩ = some (.int .i64 n91) ∧ w82.cell? ⟨b12, 9, none⟩ = some (.int .i64 n92) ∧
 wrOk w82 ⟨b14, 0, none⟩ 10 ∧ ∀ w93 : World, w93 = stW w82 ⟨b14, 0, none⟩ 0 [.int .i64 n83, .int .i64 n84, s85.val, s86.val, s87.val, .string t88, .string t89, .int .i64 n90, .int .i64 n91, .int .i64 n92] →
 ∃ r94 r95 : Int, ∃ r96 r97 r98 : Sl, ∃ r99 r100 : ByteArray, ∃ r101 r102 r103 : Int, w93.cell? ⟨b14, 0, none⟩ = some (.int .i64 r94) ∧ w93.cell? ⟨b14, 1, none⟩ = some (.int .i64 r95) ∧ w93.cell? ⟨b14, 2, none⟩ = some (r96.val) ∧ w93.cell? ⟨b14, 3, none⟩ = some (r97.val) ∧ w93.cell? ⟨b14, 4, none⟩ = some (r98.val) ∧ w93.cell? ⟨b14, 5, none⟩ = some (.string r99) ∧ w93.cell? ⟨b14, 6, none⟩ = some (.string r100) ∧ w93.cell? ⟨b14, 7, none⟩ = some (.int .i64 r101) ∧ w93.cell? ⟨b14, 8, none⟩ = some (.int .i64 r102) ∧ w93.cell? ⟨b14, 9, none⟩ = some (.int .i64 r103) ∧
 K (.agg #[.int .i64 r94, .int .i64 r95, r96.val, r97.val, r98.val, .string r99, .string r100, .int .i64 r101, .int .i64 r102, .int .i64 r103]) w93)) ∧
 brB (decide (n16 ≥ (3 : Int)))
 (∃ s17 : Sl, w15.cell? ⟨b12, 3, none⟩ = some (s17.val) ∧
 brB (decide (n16 ≤ (s17.len : Int)))
 (∃ s18 : Sl, w15.cell? ⟨b12, 3, none⟩ = some (s18.val) ∧
 ∃ a19 : Addr, s18.ptr = some a19 ∧ 0 ≤ (wr (n16 - (1 : Int))) ∧ (wr (n16 - (1 : Int))) < (s18.len : Int) ∧
 ∃ n20 : Int, w15.cell? (Addr.add a19 (Int.toNat (wr (n16 - (1 : Int))) * 1)) = some (.int .i64 n20) ∧
 brB (decide (n20 ≥ (0 : Int)))
 (∃ s21 : Sl, w15.cell? ⟨b12, 3, none⟩ = some (s21.val) ∧
 ∃ a22 : Addr, s21.ptr = some a22 ∧ 0 ≤ (wr (n16 - (1 : Int))) ∧ (wr (n16 - (1 : Int))) < (s21.len : Int) ∧
 ∃ n23 : Int, w15.cell? (Addr.add a22 (Int.toNat (wr (n16 - (1 : Int))) * 1)) = some (.int .i64 n23) ∧
 J4 (decide (n23 < (48 : Int))) w15)
 (J4 false w15))
 (J4 false w15))
 (J4 false w15)
def hollowayref9_Fault_an : An := ⟨[(7, [(7, .sl)])], [(4, (14, .st 0 (.st 1 (.st 2 (.st 3 (.st 4 (.st 5 (.st 6 (.st 7 (.st 8 (.st 9 (.st 10 (.st 11 (.st 12 (.ef 13 .done))))))))))))), 1))], [(3, [(36, .bool)])]⟩
theorem hollowayref9_Fault_lift {s1 : Int} {s2 : Int} {s3 : Sl} {s4 : Sl} {s5 : Sl} {s6 : ByteArray} {s7 : ByteArray} {s8 : Int} {s9 : Int} {s10 : Int} {code11 : Int} {w : World} {K : Value → World → Prop} (h : hollowayref9_Fault_sh s1 s2 s3 s4 s5 s6 s7 s8 s9 s10 code11 w K) : Calls Tryz.prog fn_hollowayref9_Fault #[.agg #[.int .i64 s1, .int .i64 s2, s3.val, s4.val, s5.val, .string s6, .string s7, .int .i64 s8, .int .i64 s9, .int .i64 s10], .int .i64 code11] w fun e w' => ∃ v, e = .returned v ∧ K v w' :=
   lift_calls (A := hollowayref9_Fault_an) (c := bodyOf Tryz.f20) (args := [.agg #[.int .i64 s1, .int .i64 s2, s3.val, s4.val, s5.val, .string s6, .string s7, .int .i64 s8, .int .i64 s9, .int .i64 s10], .int .i64 code11]) orc orc_wide Tryz.func20 (by kernel_rfl) (by kernel_rfl) (Eq.mp (by kernel_rfl : hollowayref9_Fault_sh s1 s2 s3 s4 s5 s6 s7 s8 s9 s10 code11 w K = wpc orc Tryz.f20.ntmps hollowayref9_Fault_an (bodyOf Tryz.f20) (argl 0 [.agg #[.int .i64 s1, .int .i64 s2, s3.val, s4.val, s5.val, .string s6, .string s7, .int .i64 s8, .int .i64 s9, .int .i64 s10], .int .i64 code11]) w (retQ orc Tryz.f20.results.toList K)) h)

def hollowayref9_Step_sh (was_Ip1 : Int) (was_Handler2 : Int) (was_Stack3 : Sl) (was_Back4 : Sl) (was_Mem5 : Sl) (was_Out6 : ByteArray) (was_In7 : ByteArray) (was_Read8 : Int) (was_Status9 : Int) (was_Code10 : Int) (w : World) (K : Value → World → Prop) : Prop :=
 ∀ (b11 : Nat) (w12 : World), b11 = w.heap.size → w12 = World.alloc w (.cells #[.int .i64 was_Ip1, .int .i64 was_Handler2, was_Stack3.val, was_Back4.val, was_Mem5.val, .string was_Out6, .string was_In7, .int .i64 was_Read8, .int .i64 was_Status9, .int .i64 was_Code10] T_api_State) →
 ∀ (b13 : Nat) (w14 : World), b13 = w12.heap.size → w14 = World.alloc w12 (.cells #[.int .i64 (0 : Int), .int .i64 (0 : Int), .slice none 0 0, .slice none 0 0, .slice none 0 0, .string (bs []), .string (bs []), .int .i64 (0 : Int), .int .i64 (0 : Int), .int .i64 (0 : Int)] T_api_State) →
 ∃ n15 : Int, w14.cell? ⟨b11, 8, none⟩ = some (.int .i64 n15) ∧
 brB (n15 != (0 : Int))
 (∃ n16 n17 : Int, ∃ s18 s19 s20 : Sl, ∃ t21 t22 : ByteArray, ∃ n23 n24 n25 : Int, w14.cell? ⟨b11, 0, none⟩ = some (.int .i64 n16) ∧ w14.cell? ⟨b11, 1, none⟩ = some (.int .i64 n17) ∧ w14.cell? ⟨b11, 2, none⟩ = some (s18.val) ∧ w14.cell? ⟨b11, 3, none⟩ = some (s19.val) ∧ w14.cell? ⟨b11, 4, none⟩ = some (s20.val) ∧ w14.cell? ⟨b11, 5, none⟩ = some (.string t21) ∧ w14.cell? ⟨b11, 6, none⟩ = some (.string t22) ∧ w14.cell? ⟨b11, 7, none⟩ = some (.int .i64 n23) ∧ w14.cell? ⟨b11, 8, none⟩ = some (.int .i64 n24) ∧ w14.cell? ⟨b11, 9, none⟩ = some (.int .i64 n25) ∧
 wrOk w14 ⟨b13, 0, none⟩ 10 ∧ ∀ w26 : World, w26 = stW w14 ⟨b13, 0, none⟩ 0 [.int .i64 n16, .int .i64 n17, s18.val, s19.val, s20.val, .string t21, .string t22, .int .i64 n23, .int .i64 n24, .int .i64 n25] →
 ∃ r27 r28 : Int, ∃ r29 r30 r31 : Sl, ∃ r32 r33 : ByteArray, ∃ r34 r35 r36 : Int, w26.cell? ⟨b13, 0, none⟩ = some (.int .i64 r27) ∧ w26.cell? ⟨b13, 1, none⟩ = some (.int .i64 r28) ∧ w26.cell? ⟨b13, 2, none⟩ = some (r29.val) ∧ w26.cell? ⟨b13, 3, none⟩ = some (r30.val) ∧ w26.cell? ⟨b13, 4, none⟩ = some (r31.val) ∧ w26.cell? ⟨b13, 5, none⟩ = some (.string r32) ∧ w26.cell? ⟨b13, 6, none⟩ = some (.string r33) ∧ w26.cell? ⟨b13, 7, none⟩ = some (.int .i64 r34) ∧ w26.cell? ⟨b13, 8, none⟩ = some (.int .i64 r35) ∧ w26.cell? ⟨b13, 9, none⟩ = some (.int .i64 r36) ∧
 K (.agg #[.int .i64 r27, .int .i64 r28, r29.val, r30.val, r31.val, .string r32, .string r33, .int .i64 r34, .int .i64 r35, .int .i64 r36]) w26)
 (∃ n37 n38 : Int, ∃ s39 s40 s41 : Sl, ∃ t42 t43 : ByteArray, ∃ n44 n45 n46 : Int, w14.cell? ⟨b11, 0, none⟩ = some (.int .i64 n37) ∧ w14.cell? ⟨b11, 1, none⟩ = some (.int .i64 n38) ∧ w14.cell? ⟨b11, 2, none⟩ = some (s39.val) ∧ w14.cell? ⟨b11, 3, none⟩ = some (s40.val) ∧ w14.cell? ⟨b11, 4, none⟩ = some (s41.val) ∧ w14.cell? ⟨b11, 5, none⟩ = some (.string t42) ∧ w14.cell? ⟨b11, 6, none⟩ = some (.string t43) ∧ w14.cell? ⟨b11, 7, none⟩ = some (.int .i64 n44) ∧ w14.cell? ⟨b11, 8, none⟩ = some (.int .i64 n45) ∧ w14.cell? ⟨b11, 9, none⟩ = some (.int .i64 n46) ∧
 Calls Tryz.prog fn_hollowayref9_Copy #[.agg #[.int .i64 n37, .int .i64 n38, s39.val, s40.val, s41.val, .string t42, .string t43, .int .i64 n44, .int .i64 n45, .int .i64 n46]] w14 fun e47 w48 => ∃ n49 n50 : Int, ∃ s51 s52 s53 : Sl, ∃ t54 t55 : ByteArray, ∃ n56 n57 n58 : Int, e47 = .returned (.agg #[.int .i64 n49, .int .i64 n50, s51.val, s52.val, s53.val, .string t54, .string t55, .int .i64 n56, .int .i64 n57, .int .i64 n58]) ∧
 ∀ (b59 : Nat) (w60 : World), b59 = w48.heap.size → w60 = World.alloc w48 (.cells #[.int .i64 (0 : Int), .int .i64 (0 : Int), .slice none 0 0, .slice none 0 0, .slice none 0 0, .string (bs []), .string (bs []), .int .i64 (0 : Int), .int .i64 (0 : Int), .int .i64 (0 : Int)] T_api_State) →
 wrOk w60 ⟨b59, 0, none⟩ 10 ∧ ∀ w61 : World, w61 = stW w60 ⟨b59, 0, none⟩ 0 [.int .i64 n49, .int .i64 n50, s51.val, s52.val, s53.val, .string t54, .string t55, .int .i64 n56, .int .i64 n57, .int .i64 n58] →
 ∃ J7 : Bool → World → Prop, (∀ (b66 : Bool) (w65 : World), J7 b66 w65 →
 brB b66
 (∃ n67 n68 : Int, ∃ s69 s70 s71 : Sl, ∃ t72 t73 : ByteArray, ∃ n74 n75 n76 : Int, w65.cell? ⟨b11, 0, none⟩ = some (.int .i64 n67) ∧ w65.cell? ⟨b11, 1, none⟩ = some (.int .i64 n68) ∧ w65.cell? ⟨b11, 2, none⟩ = some (s69.val) ∧ w65.cell? ⟨b11, 3, none⟩ = some (s70.val) ∧ w65.cell? ⟨b11, 4, none⟩ = some (s71.val) ∧ w65.cell? ⟨b11, 5, none⟩ = some (.string t72) ∧ w65.cell? ⟨b11, 6, none⟩ = some (.string t73) ∧ w65.cell? ⟨b11, 7, none⟩ = some (.int .i64 n74) ∧ w65.cell? ⟨b11, 8, none⟩ = some (.int .i64 n75) ∧ w65.cell? ⟨b11, 9, none⟩ = some (.int .i64 n76) ∧
 Calls Tryz.prog fn_hollowayref9_Fault #[.agg #[.int .i64 n67, .int .i64 n68, s69.val, s70.val, s71.val, .string t72, .string t73, .int .i64 n74, .int .i64 n75, .int .i64 n76], .int .i64 (-9 : Int)] w65 fun e77 w78 => ∃ n79 n80 : Int, ∃ s81 s82 s83 : Sl, ∃ t84 t85 : ByteArray, ∃ n86 n87 n88 : Int, e77 = .returned (.agg #[.int .i64 n79, .int .i64 n80, s81.val, s82.val, s83.val, .string t84, .string t85, .int .i64 n86, .int .i64 n87, .int .i64 n88]) ∧
 wrOk w78 ⟨b13, 0, none⟩ 10 ∧ ∀ w89 : World, w89 = stW w78 ⟨b13, 0, none⟩ 0 [.int .i64 n79, .int .i64 n80, s81.val, s82.val, s83.val, .string t84, .string t85, .int .i64 n86, .int .i64 n87, .int .i64 n88] →
 ∃ r90 r91 : Int, ∃ r92 r93 r94 : Sl, ∃ r95 r96 : ByteArray, ∃ r97 r98 r99 : Int, w89.cell? ⟨b13, 0, none⟩ = some (.int .i64 r90) ∧ w89.cell? ⟨b13, 1, none⟩ = some (.int .i64 r91) ∧ w89.cell? ⟨b13, 2, none⟩ = some (r92.val) ∧ w89.cell? ⟨b13, 3, none⟩ = some (r93.val) ∧ w89.cell? ⟨b13, 4, none⟩ = some (r94.val) ∧ w89.cell? ⟨b13, 5, none⟩ = some (.string r95) ∧ w89.cell? ⟨b13, 6, none⟩ = some (.string r96) ∧ w89.cell? ⟨b13, 7, none⟩ = some (.int .i64 r97) ∧ w89.cell? ⟨b13, 8, none⟩ = some (.int .i64 r98) ∧ w89.cell? ⟨b13, 9, none⟩ = some (.int .i64 r99) ∧
 K (.agg #[.int .i64 r90, .int .i64 r91, r92.val, r93.val, r94.val, .string r95, .string r96, .int .i64 r97, .int .i64 r98, .int .i64 r99]) w89)
 (∃ s100 : Sl, w65.cell? ⟨b59, 4, none⟩ = some (s100.val) ∧
 ∃ n101 : Int, w65.cell? ⟨b59, 0, none⟩ = some (.int .i64 n101) ∧
 ∃ a102 : Addr, s100.ptr = some a102 ∧ 0 ≤ n101 ∧ n101 < (s100.len : Int) ∧
 ∃ n103 : Int, w65.cell? (Addr.add a102 (Int.toNat n101 * 1)) = some (.int .i64 n103) ∧
 brB (decide (n103 ≥ (64 : Int)))
 (∃ s104 : Sl, w65.cell? ⟨b59, 3, none⟩ = some (s104.val) ∧
 brB (decide ((s104.len : Int) ≥ (48 : Int)))
 (∃ n105 n106 : Int, ∃ s107 s108 s109 : Sl, ∃ t110 t111 : ByteArray, ∃ n112 n113 n114 : Int, w65.cell? ⟨b11, 0, none⟩ = some (.int .i64 n105) ∧ w65.cell? ⟨b11, 1, none⟩ = some (.int .i64 n106) ∧ w65.cell? ⟨b11, 2, none⟩ = some (s107.val) ∧ w65.cell? ⟨b11, 3, none⟩ = some (s108.val) ∧ w65.cell? ⟨b11, 4, none⟩ = some (s109.val) ∧ w65.cell? ⟨b11, 5, none⟩ = some (.string t110) ∧ w65.cell? ⟨b11, 6, none⟩ = some (.string t111) ∧ w65.cell? ⟨b11, 7, none⟩ = some (.int .i64 n112) ∧ w65.cell? ⟨b11, 8, none⟩ = some (.int .i64 n113) ∧ w65.cell? ⟨b11, 9, none⟩ = some (.int .i64 n114) ∧
 Calls Tryz.prog fn_hollowayref9_Fault #[.agg #[.int .i64 n105, .int .i64 n106, s107.val, s108.val, s109.val, .string t110, .string t111, .int .i64 n112, .int .i64 n113, .int .i64 n114], .int .i64 (-5 : Int)] w65 fun e115 w116 => ∃ n117 n118 : Int, ∃ s119 s120 s121 : Sl, ∃ t122 t123 : ByteArray, ∃ n124 n125 n126 : Int, e115 = .returned (.agg #[.int .i64 n117, .int .i64 n118, s119.val, s120.val, s121.val, .string t122, .string t123, .int .i64 n124, .int .i64 n125, .int .i64 n126]) ∧
 wrOk w116 ⟨b13, 0, none⟩ 10 ∧ ∀ w127 : World, w127 = stW w116 ⟨b13, 0, none⟩ 0 [.int .i64 n117, .int .i64 n118, s119.val, s120.val, s121.val, .string t122, .string t123, .int .i64 n124, .int .i64 n125, .int .i64 n126] →
 ∃ r128 r129 : Int, ∃ r130 r131 r132 : Sl, ∃ r133 r134 : ByteArray, ∃ r135 r136 r137 : Int, w127.cell? ⟨b13, 0, none⟩ = some (.int .i64 r128) ∧ w127.cell? ⟨b13, 1, none⟩ = some (.int .i64 r129) ∧ w127.cell? ⟨b13, 2, none⟩ = some (r130.val) ∧ w127.cell? ⟨b13, 3, none⟩ = some (r131.val) ∧ w127.cell? ⟨b13, 4, none⟩ = some (r132.val) ∧ w127.cell? ⟨b13, 5, none⟩ = some (.string r133) ∧ w127.cell? ⟨b13, 6, none⟩ = some (.string r134) ∧ w127.cell? ⟨b13, 7, none⟩ = some (.int .i64 r135) ∧ w127.cell? ⟨b13, 8, none⟩ = some (.int .i64 r136) ∧ w127.cell? ⟨b13, 9, none⟩ = some (.int .i64 r137) ∧
 K (.agg #[.int .i64 r128, .int .i64 r129, r130.val, r131.val, r132.val, .string r133, .string r134, .int .i64 r135, .int .i64 r136, .int .i64 r137]) w127)
 (∃ s138 : Sl, w65.cell? ⟨b59, 3, none⟩ = some (s138.val) ∧
 ∃ n139 : Int, w65.cell? ⟨b59, 0, none⟩ = some (.int .i64 n139) ∧
 ∀ (b140 : Nat) (w141 : World), b140 = w65.heap.size → w141 = World.alloc w65 (.cells #[.int .i64 (wr (n139 + (1 : Int)))] T_int) →
 ∃ s142 : Sl, ∃ w143 : World, (Builtin.append_ #[T_sl_int, T_sl_int] T_sl_int #[s138.val, .slice (some ⟨b140, 0, none⟩) 1 1]).run Tryz.prog w141 = .ok (s142.val) w143 ∧
 wrOk w143 ⟨b59, 3, none⟩ 1 ∧ ∀ w144 : World, w144 = stW w143 ⟨b59, 3, none⟩ 0 [s142.val] →
 wrOk w144 ⟨b59, 0, none⟩ 1 ∧ ∀ w145 : World, w145 = stW w144 ⟨b59, 0, none⟩ 0 [.int .i64 n103] →
 ∃ n146 n147 : Int, ∃ s148 s149 s150 : Sl, ∃ t151 t152 : ByteArray, ∃ n153 n154 n155 : Int, w145.cell? ⟨b59, 0, none⟩ = some (.int .i64 n146) ∧ w145.cell? ⟨b59, 1, none⟩ = some (.int .i64 n147) ∧ w145.cell? ⟨b59, 2, none⟩ = some (s148.val) ∧ w145.cell? ⟨b59, 3, none⟩ = some (s149.val) ∧ w145.cell? ⟨b59, 4, none⟩ = some (s150.val) ∧ w145.cell? ⟨b59, 5, none⟩ = some (.string t151) ∧ w145.cell? ⟨b59, 6, none⟩ = some (.string t152) ∧ w145.cell? ⟨b59, 7, none⟩ = some (.int .i64 n153) ∧ w145.cell? ⟨b59, 8, none⟩ = some (.int .i64 n154) ∧ w145.cell? ⟨b59, 9, none⟩ = some (.int .i64 n155) ∧
 wrOk w145 ⟨b13, 0, none⟩ 10 ∧ ∀ w156 : World, w156 = stW w145 ⟨b13, 0, none⟩ 0 [.int .i64 n146, .int .i64 n147, s148.val, s149.val, s150.val, .string t151, .string t152, .int .i64 n153, .int .i64 n154, .int .i64 n155] →
 ∃ r157 r158 : Int, ∃ r159 r160 r161 : Sl, ∃ r162 r163 : ByteArray, ∃ r164 r165 r166 : Int, w156.cell? ⟨b13, 0, none⟩ = some (.int .i64 r157) ∧ w156.cell? ⟨b13, 1, none⟩ = some (.int .i64 r158) ∧ w156.cell? ⟨b13, 2, none⟩ = some (r159.val) ∧ w156.cell? ⟨b13, 3, none⟩ = some (r160.val) ∧ w156.cell? ⟨b13, 4, none⟩ = some (r161.val) ∧ w156.cell? ⟨b13, 5, none⟩ = some (.string r162) ∧ w156.cell? ⟨b13, 6, none⟩ = some (.string r163) ∧ w156.cell? ⟨b13, 7, none⟩ = some (.int .i64 r164) ∧ w156.cell? ⟨b13, 8, none⟩ = some (.int .i64 r165) ∧ w156.cell? ⟨b13, 9, none⟩ = some (.int .i64 r166) ∧
 K (.agg #[.int .i64 r157, .int .i64 r158, r159.val, r160.val, r161.val, .string r162, .string r163, .int .i64 r164, .int .i64 r165, .int .i64 r166]) w156))
 (Calls Tryz.prog fn_hollowayref1_Op #[.int .i64 n103] w65 fun e167 w168 => ∃ b169 : Bool, e167 = .returned (.bool b169) ∧
 brB (!b169)
 (∃ n170 n171 : Int, ∃ s172 s173 s174 : Sl, ∃ t175 t176 : ByteArray, ∃ n177 n178 n179 : Int, w168.cell? ⟨b11, 0, none⟩ = some (.int .i64 n170) ∧ w168.cell? ⟨b11, 1, none⟩ = some (.int .i64 n171) ∧ w168.cell? ⟨b11, 2, none⟩ = some (s172.val) ∧ w168.cell? ⟨b11, 3, none⟩ = some (s173.val) ∧ w168.cell? ⟨b11, 4, none⟩ = some (s174.val) ∧ w168.cell? ⟨b11, 5, none⟩ = some (.string t175) ∧ w168.cell? ⟨b11, 6, none⟩ = some (.string t176) ∧ w168.cell? ⟨b11, 7, none⟩ = some (.int .i64 n177) ∧ w168.cell? ⟨b11, 8, none⟩ = some (.int .i64 n178) ∧ w168.cell? ⟨b11, 9, none⟩ = some (.int .i64 n179) ∧
 Calls Tryz.prog fn_hollowayref9_Fault #[.agg #[.int .i64 n170, .int .i64 n171, s172.val, s173.val, s174.val, .string t175, .string t176, .int .i64 n177, .int .i64 n178, .int .i64 n179], .int .i64 (-13 : Int)] w168 fun e180 w181 => ∃ n182 n183 : Int, ∃ s184 s185 s186 : Sl, ∃ t187 t188 : ByteArray, ∃ n189 n190 n191 : Int, e180 = .returned (.agg #[.int .i64 n182, .int .i64 n183, s184.val, s185.val, s186.val, .string t187, .string t188, .int .i64 n189, .int .i64 n190, .int .i64 n191]) ∧
 wrOk w181 ⟨b13, 0, none⟩ 10 ∧ ∀ w192 : World, w192 = stW w181 ⟨b13, 0, none⟩ 0 [.int .i64 n182, .int .i64 n183, s184.val, s185.val, s186.val, .string t187, .string t188, .int .i64 n189, .int .i64 n190, .int .i64 n191] →
 ∃ r193 r194 : Int, ∃ r195 r196 r197 : Sl, ∃ r198 r199 : ByteArray, ∃ r200 r201 r202 : Int, w192.cell? ⟨b13, 0, none⟩ = some (.int .i64 r193) ∧ w192.cell? ⟨b13, 1, none⟩ = some (.int .i64 r194) ∧ w192.cell? ⟨b13, 2, none⟩ = some (r195.val) ∧ w192.cell? ⟨b13, 3, none⟩ = some (r196.val) ∧ w192.cell? ⟨b13, 4, none⟩ = some (r197.val) ∧ w192.cell? ⟨b13, 5, none⟩ = some (.string r198) ∧ w192.cell? ⟨b13, 6, none⟩ = some (.string r199) ∧ w192.cell? ⟨b13, 7, none⟩ = some (.int .i64 r200) ∧ w192.cell? ⟨b13, 8, none⟩ = some (.int .i64 r201) ∧ w192.cell? ⟨b13, 9, none⟩ = some (.int .i64 r202) ∧
 K (.agg #[.int .i64 r193, .int .i64 r194, r195.val, r196.val, r197.val, .string r198, .string r199, .int .i64 r200, .int .i64 r201, .int .i64 r202]) w192)
 (∃ J22 : Int → World → Prop, (∀ (arg601 : Int) (w245 : World), J22 arg601 w245 →
 Calls Tryz.prog fn_hollowayref1_Moves #[.int .i64 n103] w245 fun e246 w247 => ∃ n248 n249 : Int, ∃ n250 n251 : Int, e246 = .returned (.tuple #[.int .i64 n248, .int .i64 n249, .int .i64 n250, .int .i64 n251]) ∧
 ∀ w252 : World, w252 = World.drew w247 →
 ∃ s253 : Sl, held (Lw w252) ⟨b59, 2, none⟩ (s253.val) ∧
 ∃ s254 : Sl, held (Lw w252) ⟨b59, 3, none⟩ (s254.val) ∧
 brB (decide ((s253.len : Int) < n248))
 (∃ n255 n256 : Int, ∃ s257 s258 s259 : Sl, ∃ t260 t261 : ByteArray, ∃ n262 n263 n264 : Int, w252.cell? ⟨b11, 0, none⟩ = some (.int .i64 n255) ∧ w252.cell? ⟨b11, 1, none⟩ = some (.int .i64 n256) ∧ w252.cell? ⟨b11, 2, none⟩ = some (s257.val) ∧ w252.cell? ⟨b11, 3, none⟩ = some (s258.val) ∧ w252.cell? ⟨b11, 4, none⟩ = some (s259.val) ∧ w252.cell? ⟨b11, 5, none⟩ = some (.string t260) ∧ w252.cell? ⟨b11, 6, none⟩ = some (.string t261) ∧ w252.cell? ⟨b11, 7, none⟩ = some (.int .i64 n262) ∧ w252.cell? ⟨b11, 8, none⟩ = some (.int .i64 n263) ∧ w252.cell? ⟨b11, 9, none⟩ = some (.int .i64 n264) ∧
 Calls Tryz.prog fn_hollowayref9_Fault #[.agg #[.int .i64 n255, .int .i64 n256, s257.val, s258.val, s259.val, .string t260, .string t261, .int .i64 n262, .int .i64 n263, .int .i64 n264], .int .i64 (-4 : Int)] w252 fun e265 w266 => ∃ n267 n268 : Int, ∃ s269 s270 s271 : Sl, ∃ t272 t273 : ByteArray, ∃ n274 n275 n276 : Int, e265 = .returned (.agg #[.int .i64 n267, .int .i64 n268, s269.val, s270.val, s271.val, .string t272, .string t273, .int .i64 n274, .int .i64 n275, .int .i64 n276]) ∧
 wrOk w266 ⟨b13, 0, none⟩ 10 ∧ ∀ w277 : World, w277 = stW w266 ⟨b13, 0, none⟩ 0 [.int .i64 n267, .int .i64 n268, s269.val, s270.val, s271.val, .string t272, .string t273, .int .i64 n274, .int .i64 n275, .int .i64 n276] →
 ∃ r278 r279 : Int, ∃ r280 r281 r282 : Sl, ∃ r283 r284 : ByteArray, ∃ r285 r286 r287 : Int, w277.cell? ⟨b13, 0, none⟩ = some (.int .i64 r278) ∧ w277.cell? ⟨b13, 1, none⟩ = some (.int .i64 r279) ∧ w277.cell? ⟨b13, 2, none⟩ = some (r280.val) ∧ w277.cell? ⟨b13, 3, none⟩ = some (r281.val) ∧ w277.cell? ⟨b13, 4, none⟩ = some (r282.val) ∧ w277.cell? ⟨b13, 5, none⟩ = some (.string r283) ∧ w277.cell? ⟨b13, 6, none⟩ = some (.string r284) ∧ w277.cell? ⟨b13, 7, none⟩ = some (.int .i64 r285) ∧ w277.cell? ⟨b13, 8, none⟩ = some (.int .i64 r286) ∧ w277.cell? ⟨b13, 9, none⟩ = some (.int .i64 r287) ∧
 K (.agg #[.int .i64 r278, .int .i64 r279, r280.val, r281.val, r282.val, .string r283, .string r284, .int .i64 r285, .int .i64 r286, .int .i64 r287]) w277)
 (brB (decide ((s254.len : Int) < n249))
 (∃ n288 n289 : Int, ∃ s290 s291 s292 : Sl, ∃ t293 t294 : ByteArray, ∃ n295 n296 n297 : Int, w252.cell? ⟨b11, 0, none⟩ = some (.int .i64 n288) ∧ w252.cell? ⟨b11, 1, none⟩ = some (.int .i64 n289) ∧ w252.cell? ⟨b11, 2, none⟩ = some (s290.val) ∧ w252.cell? ⟨b11, 3, none⟩ = some (s291.val) ∧ w252.cell? ⟨b11, 4, none⟩ = some (s292.val) ∧ w252.cell? ⟨b11, 5, none⟩ = some (.string t293) ∧ w252.cell? ⟨b11, 6, none⟩ = some (.string t294) ∧ w252.cell? ⟨b11, 7, none⟩ = some (.int .i64 n295) ∧ w252.cell? ⟨b11, 8, none⟩ = some (.int .i64 n296) ∧ w252.cell? ⟨b11, 9, none⟩ = some (.int .i64 n297) ∧
 Calls Tryz.prog fn_hollowayref9_Fault #[.agg #[.int .i64 n288, .int .i64 n289, s290.val, s291.val, s292.val, .string t293, .string t294, .int .i64 n295, .int .i64 n296, .int .i64 n297], .int .i64 (-6 : Int)] w252 fun e298 w299 => ∃ n300 n301 : Int, ∃ s302 s303 s304 : Sl, ∃ t305 t306 : ByteArray, ∃ n307 n308 n309 : Int, e298 = .returned (.agg #[.int .i64 n300, .int .i64 n301, s302.val, s303.val, s304.val, .string t305, .string t306, .int .i64 n307, .int .i64 n308, .int .i64 n309]) ∧
 wrOk w299 ⟨b13, 0, none⟩ 10 ∧ ∀ w310 : World, w310 = stW w299 ⟨b13, 0, none⟩ 0 [.int .i64 n300, .int .i64 n301, s302.val, s303.val, s304.val, .string t305, .string t306, .int .i64 n307, .int .i64 n308, .int .i64 n309] →
 ∃ r311 r312 : Int, ∃ r313 r314 r315 : Sl, ∃ r316 r317 : ByteArray, ∃ r318 r319 r320 : Int, w310.cell? ⟨b13, 0, none⟩ = some (.int .i64 r311) ∧ w310.cell? ⟨b13, 1, none⟩ = some (.int .i64 r312) ∧ w310.cell? ⟨b13, 2, none⟩ = some (r313.val) ∧ w310.cell? ⟨b13, 3, none⟩ = some (r314.val) ∧ w310.cell? ⟨b13, 4, none⟩ = some (r315.val) ∧ w310.cell? ⟨b13, 5, none⟩ = some (.string r316) ∧ w310.cell? ⟨b13, 6, none⟩ = some (.string r317) ∧ w310.cell? ⟨b13, 7, none⟩ = some (.int .i64 r318) ∧ w310.cell? ⟨b13, 8, none⟩ = some (.int .i64 r319) ∧ w310.cell? ⟨b13, 9, none⟩ = some (.int .i64 r320) ∧
 K (.agg #[.int .i64 r311, .int .i64 r312, r313.val, r314.val, r315.val, .string r316, .string r317, .int .i64 r318, .int .i64 r319, .int .i64 r320]) w310)
 (brB (decide ((wr ((wr ((s253.len : Int) - n248)) + n250)) > (48 : Int)))
 (∃ n321 n322 : Int, ∃ s323 s324 s325 : Sl, ∃ t326 t327 : ByteArray, ∃ n328 n329 n330 : Int, w252.cell? ⟨b11, 0, none⟩ = some (.int .i64 n321) ∧ w252.cell? ⟨b11, 1, none⟩ = some (.int .i64 n322) ∧ w252.cell? ⟨b11, 2, none⟩ = some (s323.val) ∧ w252.cell? ⟨b11, 3, none⟩ = some (s324.val) ∧ w252.cell? ⟨b11, 4, none⟩ = some (s325.val) ∧ w252.cell? ⟨b11, 5, none⟩ = some (.string t326) ∧ w252.cell? ⟨b11, 6, none⟩ = some (.string t327) ∧ w252.cell? ⟨b11, 7, none⟩ = some (.int .i64 n328) ∧ w252.cell? ⟨b11, 8, none⟩ = some (.int .i64 n329) ∧ w252.cell? ⟨b11, 9, none⟩ = some (.int .i64 n330) ∧
 Calls Tryz.prog fn_hollowayref9_Fault #[.agg #[.int .i64 n321, .int .i64 n322, s323.val, s324.val, s325.val, .string t326, .string t327, .int .i64 n328, .int .i64 n329, .int .i64 n330], .int .i64 (-3 : Int)] w252 fun e331 w332 => ∃ n333 n334 : Int, ∃ s335 s336 s337 : Sl, ∃ t338 t339 : ByteArray, ∃ n340 n341 n342 : Int, e331 = .returned (.agg #[.int .i64 n333, .int .i64 n334, s335.val, s336.val, s337.val, .string t338, .string t339, .int .i64 n340, .int .i64 n341, .int .i64 n342]) ∧
 wrOk w332 ⟨b13, 0, none⟩ 10 ∧ ∀ w343 : World, w343 = stW w332 ⟨b13, 0, none⟩ 0 [.int .i64 n333, .int .i64 n334, s335.val, s336.val, s337.val, .string t338, .string t339, .int .i64 n340, .int .i64 n341, .int .i64 n342] →
 ∃ r344 r345 : Int, ∃ r346 r347 r348 : Sl, ∃ r349 r350 : ByteArray, ∃ r351 r352 r353 : Int, w343.cell? ⟨b13, 0, none⟩ = some (.int .i64 r344) ∧ w343.cell? ⟨b13, 1, none⟩ = some (.int .i64 r345) ∧ w343.cell? ⟨b13, 2, none⟩ = some (r346.val) ∧ w343.cell? ⟨b13, 3, none⟩ = some (r347.val) ∧ w343.cell? ⟨b13, 4, none⟩ = some (r348.val) ∧ w343.cell? ⟨b13, 5, none⟩ = some (.string r349) ∧ w343.cell? ⟨b13, 6, none⟩ = some (.string r350) ∧ w343.cell? ⟨b13, 7, none⟩ = some (.int .i64 r351) ∧ w343.cell? ⟨b13, 8, none⟩ = some (.int .i64 r352) ∧ w343.cell? ⟨b13, 9, none⟩ = some (.int .i64 r353) ∧
 K (.agg #[.int .i64 r344, .int .i64 r345, r346.val, r347.val, r348.val, .string r349, .string r350, .int .i64 r351, .int .i64 r352, .int .i64 r353]) w343)
 (brB (decide ((wr ((wr ((s254.len : Int) - n249)) + n251)) > (48 : Int)))
 (∃ n354 n355 : Int, ∃ s356 s357 s358 : Sl, ∃ t359 t360 : ByteArray, ∃ n361 n362 n363 : Int, w252.cell? ⟨b11, 0, none⟩ = some (.int .i64 n354) ∧ w252.cell? ⟨b11, 1, none⟩ = some (.int .i64 n355) ∧ w252.cell? ⟨b11, 2, none⟩ = some (s356.val) ∧ w252.cell? ⟨b11, 3, none⟩ = some (s357.val) ∧ w252.cell? ⟨b11, 4, none⟩ = some (s358.val) ∧ w252.cell? ⟨b11, 5, none⟩ = some (.string t359) ∧ w252.cell? ⟨b11, 6, none⟩ = some (.string t360) ∧ w252.cell? ⟨b11, 7, none⟩ = some (.int .i64 n361) ∧ w252.cell? ⟨b11, 8, none⟩ = some (.int .i64 n362) ∧ w252.cell? ⟨b11, 9, none⟩ = some (.int .i64 n363) ∧
 Calls Tryz.prog fn_hollowayref9_Fault #[.agg #[.int .i64 n354, .int .i64 n355, s356.val, s357.val, s358.val, .string t359, .string t360, .int .i64 n361, .int .i64 n362, .int .i64 n363], .int .i64 (-5 : Int)] w252 fun e364 w365 => ∃ n366 n367 : Int, ∃ s368 s369 s370 : Sl, ∃ t371 t372 : ByteArray, ∃ n373 n374 n375 : Int, e364 = .returned (.agg #[.int .i64 n366, .int .i64 n367, s368.val, s369.val, s370.val, .string t371, .string t372, .int .i64 n373, .int .i64 n374, .int .i64 n375]) ∧
 wrOk w365 ⟨b13, 0, none⟩ 10 ∧ ∀ w376 : World, w376 = stW w365 ⟨b13, 0, none⟩ 0 [.int .i64 n366, .int .i64 n367, s368.val, s369.val, s370.val, .string t371, .string t372, .int .i64 n373, .int .i64 n374, .int .i64 n375] →
 ∃ r377 r378 : Int, ∃ r379 r380 r381 : Sl, ∃ r382 r383 : ByteArray, ∃ r384 r385 r386 : Int, w376.cell? ⟨b13, 0, none⟩ = some (.int .i64 r377) ∧ w376.cell? ⟨b13, 1, none⟩ = some (.int .i64 r378) ∧ w376.cell? ⟨b13, 2, none⟩ = some (r379.val) ∧ w376.cell? ⟨b13, 3, none⟩ = some (r380.val) ∧ w376.cell? ⟨b13, 4, none⟩ = some (r381.val) ∧ w376.cell? ⟨b13, 5, none⟩ = some (.string r382) ∧ w376.cell? ⟨b13, 6, none⟩ = some (.string r383) ∧ w376.cell? ⟨b13, 7, none⟩ = some (.int .i64 r384) ∧ w376.cell? ⟨b13, 8, none⟩ = some (.int .i64 r385) ∧ w376.cell? ⟨b13, 9, none⟩ = some (.int .i64 r386) ∧
 K (.agg #[.int .i64 r377, .int .i64 r378, r379.val, r380.val, r381.val, .string r382, .string r383, .int .i64 r384, .int .i64 r385, .int .i64 r386]) w376)
 (∃ J39 : Int → World → Prop, (∀ (p413 : Int) (w390 : World), J39 p413 w390 →
 ∃ J41 : Int → World → Prop, (∀ (q412 : Int) (w394 : World), J41 q412 w394 →
 ∃ J43 : Int → World → Prop, (∀ (r633 : Int) (w398 : World), J43 r633 w398 →
 ∃ n399 : Int, w398.cell? ⟨b59, 0, none⟩ = some (.int .i64 n399) ∧
 wrOk w398 ⟨b59, 0, none⟩ 1 ∧ ∀ w400 : World, w400 = stW w398 ⟨b59, 0, none⟩ 0 [.int .i64 (wr (n399 + (1 : Int)))] →
 ∃ J46 : World → Prop, (∀ (w406 : World), J46  w406 →
 ∃ s407 : Sl, w406.cell? ⟨b59, 2, none⟩ = some (s407.val) ∧
 0 ≤ (wr ((s253.len : Int) - n248)) ∧ (wr ((s253.len : Int) - n248)) ≤ (s407.cap : Int) ∧ ∀ s408 : Sl, s408 = Sl.sub s407.ptr s407.cap 0 (Int.toNat (wr ((s253.len : Int) - n248))) 1 →
 Calls Tryz.prog fn_hollowayref1_IsTwo #[.int .i64 n103] w406 fun e409 w410 => ∃ b411 : Bool, e409 = .returned (.bool b411) ∧
 brB b411
 (Calls Tryz.prog fn_hollowayref1_Two #[.int .i64 n103, .int .i64 q412, .int .i64 p413] w410 fun e414 w415 => ∃ n416 : Int, ∃ b417 : Bool, e414 = .returned (.tuple #[.int .i64 n416, .bool b417]) ∧
 brB (!b417)
 (∃ n418 n419 : Int, ∃ s420 s421 s422 : Sl, ∃ t423 t424 : ByteArray, ∃ n425 n426 n427 : Int, w415.cell? ⟨b11, 0, none⟩ = some (.int .i64 n418) ∧ w415.cell? ⟨b11, 1, none⟩ = some (.int .i64 n419) ∧ w415.cell? ⟨b11, 2, none⟩ = some (s420.val) ∧ w415.cell? ⟨b11, 3, none⟩ = some (s421.val) ∧ w415.cell? ⟨b11, 4, none⟩ = some (s422.val) ∧ w415.cell? ⟨b11, 5, none⟩ = some (.string t423) ∧ w415.cell? ⟨b11, 6, none⟩ = some (.string t424) ∧ w415.cell? ⟨b11, 7, none⟩ = some (.int .i64 n425) ∧ w415.cell? ⟨b11, 8, none⟩ = some (.int .i64 n426) ∧ w415.cell? ⟨b11, 9, none⟩ = some (.int .i64 n427) ∧
 Calls Tryz.prog fn_hollowayref9_Fault #[.agg #[.int .i64 n418, .int .i64 n419, s420.val, s421.val, s422.val, .string t423, .string t424, .int .i64 n425, .int .i64 n426, .int .i64 n427], .int .i64 (-10 : Int)] w415 fun e428 w429 => ∃ n430 n431 : Int, ∃ s432 s433 s434 : Sl, ∃ t435 t436 : ByteArray, ∃ n437 n438 n439 : Int, e428 = .returned (.agg #[.int .i64 n430, .int .i64 n431, s432.val, s433.val, s434.val, .string t435, .string t436, .int .i64 n437, .int .i64 n438, .int .i64 n439]) ∧
 wrOk w429 ⟨b13, 0, none⟩ 10 ∧ ∀ w440 : World, w440 = stW w429 ⟨b13, 0, none⟩ 0 [.int .i64 n430, .int .i64 n431, s432.val, s433.val, s434.val, .string t435, .string t436, .int .i64 n437, .int .i64 n438, .int .i64 n439] →
 ∃ r441 r442 : Int, ∃ r443 r444 r445 : Sl, ∃ r446 r447 : ByteArray, ∃ r448 r449 r450 : Int, w440.cell? ⟨b13, 0, none⟩ = some (.int .i64 r441) ∧ w440.cell? ⟨b13, 1, none⟩ = some (.int .i64 r442) ∧ w440.cell? ⟨b13, 2, none⟩ = some (r443.val) ∧ w440.cell? ⟨b13, 3, none⟩ = some (r444.val) ∧ w440.cell? ⟨b13, 4, none⟩ = some (r445.val) ∧ w440.cell? ⟨b13, 5, none⟩ = some (.string r446) ∧ w440.cell? ⟨b13, 6, none⟩ = some (.string r447) ∧ w440.cell? ⟨b13, 7, none⟩ = some (.int .i64 r448) ∧ w440.cell? ⟨b13, 8, none⟩ = some (.int .i64 r449) ∧ w440.cell? ⟨b13, 9, none⟩ = some (.int .i64 r450) ∧
 K (.agg #[.int .i64 r441, .int .i64 r442, r443.val, r444.val, r445.val, .string r446, .string r447, .int .i64 r448, .int .i64 r449, .int .i64 r450]) w440)
 (∀ (b451 : Nat) (w452 : World), b451 = w415.heap.size → w452 = World.alloc w415 (.cells #[.int .i64 n416] T_int) →
 ∃ s453 : Sl, ∃ w454 : World, (Builtin.append_ #[T_sl_int, T_sl_int] T_sl_int #[s408.val, .slice (some ⟨b451, 0, none⟩) 1 1]).run Tryz.prog w452 = .ok (s453.val) w454 ∧
 wrOk w454 ⟨b59, 2, none⟩ 1 ∧ ∀ w455 : World, w455 = stW w454 ⟨b59, 2, none⟩ 0 [s453.val] →
 ∃ n456 n457 : Int, ∃ s458 s459 s460 : Sl, ∃ t461 t462 : ByteArray, ∃ n463 n464 n465 : Int, w455.cell? ⟨b59, 0, none⟩ = some (.int .i64 n456) ∧ w455.cell? ⟨b59, 1, none⟩ = some (.int .i64 n457) ∧ w455.cell? ⟨b59, 2, none⟩ = some (s458.val) ∧ w455.cell? ⟨b59, 3, none⟩ = some (s459.val) ∧ w455.cell? ⟨b59, 4, none⟩ = some (s460.val) ∧ w455.cell? ⟨b59, 5, none⟩ = some (.string t461) ∧ w455.cell? ⟨b59, 6, none⟩ = some (.string t462) ∧ w455.cell? ⟨b59, 7, none⟩ = some (.int .i64 n463) ∧ w455.cell? ⟨b59, 8, none⟩ = some (.int .i64 n464) ∧ w455.cell? ⟨b59, 9, none⟩ = some (.int .i64 n465) ∧
 wrOk w455 ⟨b13, 0, none⟩ 10 ∧ ∀ w466 : World, w466 = stW w455 ⟨b13, 0, none⟩ 0 [.int .i64 n456, .int .i64 n457, s458.val, s459.val, s460.val, .string t461, .string t462, .int .i64 n463, .int .i64 n464, .int .i64 n465] →
 ∃ r467 r468 : Int, ∃ r469 r470 r471 : Sl, ∃ r472 r473 : ByteArray, ∃ r474 r475 r476 : Int, w466.cell? ⟨b13, 0, none⟩ = some (.int .i64 r467) ∧ w466.cell? ⟨b13, 1, none⟩ = some (.int .i64 r468) ∧ w466.cell? ⟨b13, 2, none⟩ = some (r469.val) ∧ w466.cell? ⟨b13, 3, none⟩ = some (r470.val) ∧ w466.cell? ⟨b13, 4, none⟩ = some (r471.val) ∧ w466.cell? ⟨b13, 5, none⟩ = some (.string r472) ∧ w466.cell? ⟨b13, 6, none⟩ = some (.string r473) ∧ w466.cell? ⟨b13, 7, none⟩ = some (.int .i64 r474) ∧ w466.cell? ⟨b13, 8, none⟩ = some (.int .i64 r475) ∧ w466.cell? ⟨b13, 9, none⟩ = some (.int .i64 r476) ∧
 K (.agg #[.int .i64 r467, .int .i64 r468, r469.val, r470.val, r471.val, .string r472, .string r473, .int .i64 r474, .int .i64 r475, .int .i64 r476]) w466))
 (Calls Tryz.prog fn_hollowayref1_IsOne #[.int .i64 n103] w410 fun e477 w478 => ∃ b479 : Bool, e477 = .returned (.bool b479) ∧
 brB b479
 (Calls Tryz.prog fn_hollowayref1_One #[.int .i64 n103, .int .i64 p413] w478 fun e480 w481 => ∃ n482 : Int, ∃ b483 : Bool, e480 = .returned (.tuple #[.int .i64 n482, .bool b483]) ∧
 ∀ (b484 : Nat) (w485 : World), b484 = w481.heap.size → w485 = World.alloc w481 (.cells #[.int .i64 n482] T_int) →
 ∃ s486 : Sl, ∃ w487 : World, (Builtin.append_ #[T_sl_int, T_sl_int] T_sl_int #[s408.val, .slice (some ⟨b484, 0, none⟩) 1 1]).run Tryz.prog w485 = .ok (s486.val) w487 ∧
 wrOk w487 ⟨b59, 2, none⟩ 1 ∧ ∀ w488 : World, w488 = stW w487 ⟨b59, 2, none⟩ 0 [s486.val] →
 ∃ n489 n490 : Int, ∃ s491 s492 s493 : Sl, ∃ t494 t495 : ByteArray, ∃ n496 n497 n498 : Int, w488.cell? ⟨b59, 0, none⟩ = some (.int .i64 n489) ∧ w488.cell? ⟨b59, 1, none⟩ = some (.int .i64 n490) ∧ w488.cell? ⟨b59, 2, none⟩ = some (s491.val) ∧ w488.cell? ⟨b59, 3, none⟩ = some (s492.val) ∧ w488.cell? ⟨b59, 4, none⟩ = some (s493.val) ∧ w488.cell? ⟨b59, 5, none⟩ = some (.string t494) ∧ w488.cell? ⟨b59, 6, none⟩ = some (.string t495) ∧ w488.cell? ⟨b59, 7, none⟩ = some (.int .i64 n496) ∧ w488.cell? ⟨b59, 8, none⟩ = some (.int .i64 n497) ∧ w488.cell? ⟨b59, 9, none⟩ = some (.int .i64 n498) ∧
 wrOk w488 ⟨b13, 0, none⟩ 10 ∧ ∀ w499 : World, w499 = stW w488 ⟨b13, 0, none⟩ 0 [.int .i64 n489, .int .i64 n490, s491.val, s492.val, s493.val, .string t494, .string t495, .int .i64 n496, .int .i64 n497, .int .i64 n498] →
 ∃ r500 r501 : Int, ∃ r502 r503 r504 : Sl, ∃ r505 r506 : ByteArray, ∃ r507 r508 r509 : Int, w499.cell? ⟨b13, 0, none⟩ = some (.int .i64 r500) ∧ w499.cell? ⟨b13, 1, none⟩ = some (.int .i64 r501) ∧ w499.cell? ⟨b13, 2, none⟩ = some (r502.val) ∧ w499.cell? ⟨b13, 3, none⟩ = some (r503.val) ∧ w499.cell? ⟨b13, 4, none⟩ = some (r504.val) ∧ w499.cell? ⟨b13, 5, none⟩ = some (.string r505) ∧ w499.cell? ⟨b13, 6, none⟩ = some (.string r506) ∧ w499.cell? ⟨b13, 7, none⟩ = some (.int .i64 r507) ∧ w499.cell? ⟨b13, 8, none⟩ = some (.int .i64 r508) ∧ w499.cell? ⟨b13, 9, none⟩ = some (.int .i64 r509) ∧
 K (.agg #[.int .i64 r500, .int .i64 r501, r502.val, r503.val, r504.val, .string r505, .string r506, .int .i64 r507, .int .i64 r508, .int .i64 r509]) w499)
 (∃ J62 : World → Prop, (∀ (w924 : World), J62  w924 →
 ∃ n925 n926 : Int, ∃ s927 s928 s929 : Sl, ∃ t930 t931 : ByteArray, ∃ n932 n933 n934 : Int, w924.cell? ⟨b59, 0, none⟩ = some (.int .i64 n925) ∧ w924.cell? ⟨b59, 1, none⟩ = some (.int .i64 n926) ∧ w924.cell? ⟨b59, 2, none⟩ = some (s927.val) ∧ w924.cell? ⟨b59, 3, none⟩ = some (s928.val) ∧ w924.cell? ⟨b59, 4, none⟩ = some (s929.val) ∧ w924.cell? ⟨b59, 5, none⟩ = some (.string t930) ∧ w924.cell? ⟨b59, 6, none⟩ = some (.string t931) ∧ w924.cell? ⟨b59, 7, none⟩ = some (.int .i64 n932) ∧ w924.cell? ⟨b59, 8, none⟩ = some (.int .i64 n933) ∧ w924.cell? ⟨b59, 9, none⟩ = some (.int .i64 n934) ∧
 wrOk w924 ⟨b13, 0, none⟩ 10 ∧ ∀ w935 : World, w935 = stW w924 ⟨b13, 0, none⟩ 0 [.int .i64 n925, .int .i64 n926, s927.val, s928.val, s929.val, .string t930, .string t931, .int .i64 n932, .int .i64 n933, .int .i64 n934] →
 ∃ r936 r937 : Int, ∃ r938 r939 r940 : Sl, ∃ r941 r942 : ByteArray, ∃ r943 r944 r945 : Int, w935.cell? ⟨b13, 0, none⟩ = some (.int .i64 r936) ∧ w935.cell? ⟨b13, 1, none⟩ = some (.int .i64 r937) ∧ w935.cell? ⟨b13, 2, none⟩ = some (r938.val) ∧ w935.cell? ⟨b13, 3, none⟩ = some (r939.val) ∧ w935.cell? ⟨b13, 4, none⟩ = some (r940.val) ∧ w935.cell? ⟨b13, 5, none⟩ = some (.string r941) ∧ w935.cell? ⟨b13, 6, none⟩ = some (.string r942) ∧ w935.cell? ⟨b13, 7, none⟩ = some (.int .i64 r943) ∧ w935.cell? ⟨b13, 8, none⟩ = some (.int .i64 r944) ∧ w935.cell? ⟨b13, 9, none⟩ = some (.int .i64 r945) ∧
 K (.agg #[.int .i64 r936, .int .i64 r937, r938.val, r939.val, r940.val, .string r941, .string r942, .int .i64 r943, .int .i64 r944, .int .i64 r945]) w935) ∧
 brB (n103 == (0 : Int))
 (∃ n510 : Int, w478.cell? ⟨b59, 0, none⟩ = some (.int .i64 n510) ∧
 wrOk w478 ⟨b59, 0, none⟩ 1 ∧ ∀ w511 : World, w511 = stW w478 ⟨b59, 0, none⟩ 0 [.int .i64 (wr (n510 - (1 : Int)))] →
 wrOk w511 ⟨b59, 8, none⟩ 1 ∧ ∀ w512 : World, w512 = stW w511 ⟨b59, 8, none⟩ 0 [.int .i64 (1 : Int)] →
 J62  w512)
 (brB (n103 == (1 : Int))
 (∃ n513 : Int, w478.cell? ⟨b59, 1, none⟩ = some (.int .i64 n513) ∧
 ∃ J69 : Bool → World → Prop, (∀ (b515 : Bool) (w514 : World), J69 b515 w514 →
 brB b515
 (∃ n516 n517 : Int, ∃ s518 s519 s520 : Sl, ∃ t521 t522 : ByteArray, ∃ n523 n524 n525 : Int, w514.cell? ⟨b11, 0, none⟩ = some (.int .i64 n516) ∧ w514.cell? ⟨b11, 1, none⟩ = some (.int .i64 n517) ∧ w514.cell? ⟨b11, 2, none⟩ = some (s518.val) ∧ w514.cell? ⟨b11, 3, none⟩ = some (s519.val) ∧ w514.cell? ⟨b11, 4, none⟩ = some (s520.val) ∧ w514.cell? ⟨b11, 5, none⟩ = some (.string t521) ∧ w514.cell? ⟨b11, 6, none⟩ = some (.string t522) ∧ w514.cell? ⟨b11, 7, none⟩ = some (.int .i64 n523) ∧ w514.cell? ⟨b11, 8, none⟩ = some (.int .i64 n524) ∧ w514.cell? ⟨b11, 9, none⟩ = some (.int .i64 n525) ∧
 Calls Tryz.prog fn_hollowayref9_Fault #[.agg #[.int .i64 n516, .int .i64 n517, s518.val, s519.val, s520.val, .string t521, .string t522, .int .i64 n523, .int .i64 n524, .int .i64 n525], .int .i64 (-25 : Int)] w514 fun e526 w527 => ∃ n528 n529 : Int, ∃ s530 s531 s532 : Sl, ∃ t533 t534 : ByteArray, ∃ n535 n536 n537 : Int, e526 = .returned (.agg #[.int .i64 n528, .int .i64 n529, s530.val, s531.val, s532.val, .string t533, .string t534, .int .i64 n535, .int .i64 n536, .int .i64 n537]) ∧
 wrOk w527 ⟨b13, 0, none⟩ 10 ∧ ∀ w538 : World, w538 = stW w527 ⟨b13, 0, none⟩ 0 [.int .i64 n528, .int .i64 n529, s530.val, s531.val, s532.val, .string t533, .string t534, .int .i64 n535, .int .i64 n536, .int .i64 n537] →
 ∃ r539 r540 : Int, ∃ r541 r542 r543 : Sl, ∃ r544 r545 : ByteArray, ∃ r546 r547 r548 : Int, w538.cell? ⟨b13, 0, none⟩ = some (.int .i64 r539) ∧ w538.cell? ⟨b13, 1, none⟩ = some (.int .i64 r540) ∧ w538.cell? ⟨b13, 2, none⟩ = some (r541.val) ∧ w538.cell? ⟨b13, 3, none⟩ = some (r542.val) ∧ w538.cell? ⟨b13, 4, none⟩ = some (r543.val) ∧ w538.cell? ⟨b13, 5, none⟩ = some (.string r544) ∧ w538.cell? ⟨b13, 6, none⟩ = some (.string r545) ∧ w538.cell? ⟨b13, 7, none⟩ = some (.int .i64 r546) ∧ w538.cell? ⟨b13, 8, none⟩ = some (.int .i64 r547) ∧ w538.cell? ⟨b13, 9, none⟩ = some (.int .i64 r548) ∧
 K (.agg #[.int .i64 r539, .int .i64 r540, r541.val, r542.val, r543.val, .string r544, .string r545, .int .i64 r546, .int .i64 r547, .int .i64 r548]) w538)
 (brB (decide ((s253.len : Int) ≥ (48 : Int)))
 (∃ n549 n550 : Int, ∃ s551 s552 s553 : Sl, ∃ t554 t555 : ByteArray, ∃ n556 n557 n558 : Int, w514.cell? ⟨b11, 0, none⟩ = some (.int .i64 n549) ∧ w514.cell? ⟨b11, 1, none⟩ = some (.int .i64 n550) ∧ w514.cell? ⟨b11, 2, none⟩ = some (s551.val) ∧ w514.cell? ⟨b11, 3, none⟩ = some (s552.val) ∧ w514.cell? ⟨b11, 4, none⟩ = some (s553.val) ∧ w514.cell? ⟨b11, 5, none⟩ = some (.string t554) ∧ w514.cell? ⟨b11, 6, none⟩ = some (.string t555) ∧ w514.cell? ⟨b11, 7, none⟩ = some (.int .i64 n556) ∧ w514.cell? ⟨b11, 8, none⟩ = some (.int .i64 n557) ∧ w514.cell? ⟨b11, 9, none⟩ = some (.int .i64 n558) ∧
 Calls Tryz.prog fn_hollowayref9_Fault #[.agg #[.int .i64 n549, .int .i64 n550, s551.val, s552.val, s553.val, .string t554, .string t555, .int .i64 n556, .int .i64 n557, .int .i64 n558], .int .i64 (-3 : Int)] w514 fun e559 w560 => ∃ n561 n562 : Int, ∃ s563 s564 s565 : Sl, ∃ t566 t567 : ByteArray, ∃ n568 n569 n570 : Int, e559 = .returned (.agg #[.int .i64 n561, .int .i64 n562, s563.val, s564.val, s565.val, .string t566, .string t567, .int .i64 n568, .int .i64 n569, .int .i64 n570]) ∧
 wrOk w560 ⟨b13, 0, none⟩ 10 ∧ ∀ w571 : World, w571 = stW w560 ⟨b13, 0, none⟩ 0 [.int .i64 n561, .int .i64 n562, s563.val, s564.val, s565.val, .string t566, .string t567, .int .i64 n568, .int .i64 n569, .int .i64 n570] →
 ∃ r572 r573 : Int, ∃ r574 r575 r576 : Sl, ∃ r577 r578 : ByteArray, ∃ r579 r580 r581 : Int, w571.cell? ⟨b13, 0, none⟩ = some (.int .i64 r572) ∧ w571.cell? ⟨b13, 1, none⟩ = some (.int .i64 r573) ∧ w571.cell? ⟨b13, 2, none⟩ = some (r574.val) ∧ w571.cell? ⟨b13, 3, none⟩ = some (r575.val) ∧ w571.cell? ⟨b13, 4, none⟩ = some (r576.val) ∧ w571.cell? ⟨b13, 5, none⟩ = some (.string r577) ∧ w571.cell? ⟨b13, 6, none⟩ = some (.string r578) ∧ w571.cell? ⟨b13, 7, none⟩ = some (.int .i64 r579) ∧ w571.cell? ⟨b13, 8, none⟩ = some (.int .i64 r580) ∧ w571.cell? ⟨b13, 9, none⟩ = some (.int .i64 r581) ∧
 K (.agg #[.int .i64 r572, .int .i64 r573, r574.val, r575.val, r576.val, .string r577, .string r578, .int .i64 r579, .int .i64 r580, .int .i64 r581]) w571)
 (∀ w582 : World, w582 = World.drew w514 →
 ∃ S583 : World → Prop, S583 w582 ∧
 ∃ s584 : Sl, held S583 ⟨b59, 3, none⟩ (s584.val) ∧
 ∃ a585 : Addr, s584.ptr = some a585 ∧ 0 ≤ (wr (n513 - (3 : Int))) ∧ (wr (n513 - (3 : Int))) < (s584.len : Int) ∧
 ∃ n586 : Int, held S583 (Addr.add a585 (Int.toNat (wr (n513 - (3 : Int))) * 1)) (.int .i64 n586) ∧
 ∃ s587 : Sl, held S583 ⟨b59, 3, none⟩ (s587.val) ∧
 ∃ a588 : Addr, s587.ptr = some a588 ∧ 0 ≤ (wr (n513 - (2 : Int))) ∧ (wr (n513 - (2 : Int))) < (s587.len : Int) ∧
 ∃ n589 : Int, held S583 (Addr.add a588 (Int.toNat (wr (n513 - (2 : Int))) * 1)) (.int .i64 n589) ∧
 wrOk w582 ⟨b59, 0, none⟩ 1 ∧ ∀ w590 : World, w590 = stW w582 ⟨b59, 0, none⟩ 0 [.int .i64 n586] →
 S583 w590 ∧
 wrOk w590 ⟨b59, 1, none⟩ 1 ∧ ∀ w591 : World, w591 = stW w590 ⟨b59, 1, none⟩ 0 [.int .i64 n589] →
 ∃ s592 : Sl, w591.cell? ⟨b59, 3, none⟩ = some (s592.val) ∧
 0 ≤ (wr (n513 - (3 : Int))) ∧ (wr (n513 - (3 : Int))) ≤ (s592.cap : Int) ∧ ∀ s593 : Sl, s593 = Sl.sub s592.ptr s592.cap 0 (Int.toNat (wr (n513 - (3 : Int)))) 1 →
 wrOk w591 ⟨b59, 3, none⟩ 1 ∧ ∀ w594 : World, w594 = stW w591 ⟨b59, 3, none⟩ 0 [s593.val] →
 ∃ s595 : Sl, w594.cell? ⟨b59, 2, none⟩ = some (s595.val) ∧
 ∀ (b596 : Nat) (w597 : World), b596 = w594.heap.size → w597 = World.alloc w594 (.cells #[.int .i64 (0 : Int)] T_int) →
 ∃ s598 : Sl, ∃ w599 : World, (Builtin.append_ #[T_sl_int, T_sl_int] T_sl_int #[s595.val, .slice (some ⟨b596, 0, none⟩) 1 1]).run Tryz.prog w597 = .ok (s598.val) w599 ∧
 wrOk w599 ⟨b59, 2, none⟩ 1 ∧ ∀ w600 : World, w600 = stW w599 ⟨b59, 2, none⟩ 0 [s598.val] →
 J62  w600))) ∧
 brB (decide (n513 < (3 : Int)))
 (J69 true w478)
 (J69 ((s254.len : Int) != n513) w478))
 (brB (n103 == (2 : Int))
 (∀ (b602 : Nat) (w603 : World), b602 = w478.heap.size → w603 = World.alloc w478 (.cells #[.int .i64 arg601] T_int) →
 ∃ s604 : Sl, ∃ w605 : World, (Builtin.append_ #[T_sl_int, T_sl_int] T_sl_int #[s408.val, .slice (some ⟨b602, 0, none⟩) 1 1]).run Tryz.prog w603 = .ok (s604.val) w605 ∧
 wrOk w605 ⟨b59, 2, none⟩ 1 ∧ ∀ w606 : World, w606 = stW w605 ⟨b59, 2, none⟩ 0 [s604.val] →
 J62  w606)
 (brB (n103 == (3 : Int))
 (wrOk w478 ⟨b59, 0, none⟩ 1 ∧ ∀ w607 : World, w607 = stW w478 ⟨b59, 0, none⟩ 0 [.int .i64 arg601] →
 J62  w607)
 (brB (n103 == (4 : Int))
 (wrOk w478 ⟨b59, 2, none⟩ 1 ∧ ∀ w608 : World, w608 = stW w478 ⟨b59, 2, none⟩ 0 [s408.val] →
 brB (p413 == (0 : Int))
 (wrOk w608 ⟨b59, 0, none⟩ 1 ∧ ∀ w609 : World, w609 = stW w608 ⟨b59, 0, none⟩ 0 [.int .i64 arg601] →
 J62  w609)
 (J62  w608))
 (brB (n103 == (5 : Int))
 (∃ s610 : Sl, w478.cell? ⟨b59, 3, none⟩ = some (s610.val) ∧
 ∃ a611 : Addr, s610.ptr = some a611 ∧ 0 ≤ (wr ((s254.len : Int) - (1 : Int))) ∧ (wr ((s254.len : Int) - (1 : Int))) < (s610.len : Int) ∧
 ∃ n612 : Int, w478.cell? (Addr.add a611 (Int.toNat (wr ((s254.len : Int) - (1 : Int))) * 1)) = some (.int .i64 n612) ∧
 wrOk w478 ⟨b59, 0, none⟩ 1 ∧ ∀ w613 : World, w613 = stW w478 ⟨b59, 0, none⟩ 0 [.int .i64 n612] →
 ∃ s614 : Sl, w613.cell? ⟨b59, 3, none⟩ = some (s614.val) ∧
 0 ≤ (wr ((s254.len : Int) - (1 : Int))) ∧ (wr ((s254.len : Int) - (1 : Int))) ≤ (s614.cap : Int) ∧ ∀ s615 : Sl, s615 = Sl.sub s614.ptr s614.cap 0 (Int.toNat (wr ((s254.len : Int) - (1 : Int)))) 1 →
 wrOk w613 ⟨b59, 3, none⟩ 1 ∧ ∀ w616 : World, w616 = stW w613 ⟨b59, 3, none⟩ 0 [s615.val] →
 J62  w616)
 (brB (n103 == (6 : Int))
 (∀ (b617 : Nat) (w618 : World), b617 = w478.heap.size → w618 = World.alloc w478 (.cells #[.int .i64 p413, .int .i64 p413] T_int) →
 ∃ s619 : Sl, ∃ w620 : World, (Builtin.append_ #[T_sl_int, T_sl_int] T_sl_int #[s408.val, .slice (some ⟨b617, 0, none⟩) 2 2]).run Tryz.prog w618 = .ok (s619.val) w620 ∧
 wrOk w620 ⟨b59, 2, none⟩ 1 ∧ ∀ w621 : World, w621 = stW w620 ⟨b59, 2, none⟩ 0 [s619.val] →
 J62  w621)
 (brB (n103 == (7 : Int))
 (wrOk w478 ⟨b59, 2, none⟩ 1 ∧ ∀ w622 : World, w622 = stW w478 ⟨b59, 2, none⟩ 0 [s408.val] →
 J62  w622)
 (brB (n103 == (8 : Int))
 (∀ (b623 : Nat) (w624 : World), b623 = w478.heap.size → w624 = World.alloc w478 (.cells #[.int .i64 p413, .int .i64 q412] T_int) →
 ∃ s625 : Sl, ∃ w626 : World, (Builtin.append_ #[T_sl_int, T_sl_int] T_sl_int #[s408.val, .slice (some ⟨b623, 0, none⟩) 2 2]).run Tryz.prog w624 = .ok (s625.val) w626 ∧
 wrOk w626 ⟨b59, 2, none⟩ 1 ∧ ∀ w627 : World, w627 = stW w626 ⟨b59, 2, none⟩ 0 [s625.val] →
 J62  w627)
 (brB (n103 == (9 : Int))
 (∀ (b628 : Nat) (w629 : World), b628 = w478.heap.size → w629 = World.alloc w478 (.cells #[.int .i64 q412, .int .i64 p413, .int .i64 q412] T_int) →
 ∃ s630 : Sl, ∃ w631 : World, (Builtin.append_ #[T_sl_int, T_sl_int] T_sl_int #[s408.val, .slice (some ⟨b628, 0, none⟩) 3 3]).run Tryz.prog w629 = .ok (s630.val) w631 ∧
 wrOk w631 ⟨b59, 2, none⟩ 1 ∧ ∀ w632 : World, w632 = stW w631 ⟨b59, 2, none⟩ 0 [s630.val] →
 J62  w632)
 (brB (n103 == (10 : Int))
 (∀ (b634 : Nat) (w635 : World), b634 = w478.heap.size → w635 = World.alloc w478 (.cells #[.int .i64 q412, .int .i64 p413, .int .i64 r633] T_int) →
 ∃ s636 : Sl, ∃ w637 : World, (Builtin.append_ #[T_sl_int, T_sl_int] T_sl_int #[s408.val, .slice (some ⟨b634, 0, none⟩) 3 3]).run Tryz.prog w635 = .ok (s636.val) w637 ∧
 wrOk w637 ⟨b59, 2, none⟩ 1 ∧ ∀ w638 : World, w638 = stW w637 ⟨b59, 2, none⟩ 0 [s636.val] →
 J62  w638)
 (∃ J88 : Bool → World → Prop, (∀ (b640 : Bool) (w639 : World), J88 b640 w639 →
 brB b640
 (∃ J92 : Bool → World → Prop, (∀ (b643 : Bool) (w642 : World), J92 b643 w642 →
 brB b643
 (∃ n644 n645 : Int, ∃ s646 s647 s648 : Sl, ∃ t649 t650 : ByteArray, ∃ n651 n652 n653 : Int, w642.cell? ⟨b11, 0, none⟩ = some (.int .i64 n644) ∧ w642.cell? ⟨b11, 1, none⟩ = some (.int .i64 n645) ∧ w642.cell? ⟨b11, 2, none⟩ = some (s646.val) ∧ w642.cell? ⟨b11, 3, none⟩ = some (s647.val) ∧ w642.cell? ⟨b11, 4, none⟩ = some (s648.val) ∧ w642.cell? ⟨b11, 5, none⟩ = some (.string t649) ∧ w642.cell? ⟨b11, 6, none⟩ = some (.string t650) ∧ w642.cell? ⟨b11, 7, none⟩ = some (.int .i64 n651) ∧ w642.cell? ⟨b11, 8, none⟩ = some (.int .i64 n652) ∧ w642.cell? ⟨b11, 9, none⟩ = some (.int .i64 n653) ∧
 Calls Tryz.prog fn_hollowayref9_Fault #[.agg #[.int .i64 n644, .int .i64 n645, s646.val, s647.val, s648.val, .string t649, .string t650, .int .i64 n651, .int .i64 n652, .int .i64 n653], .int .i64 (-9 : Int)] w642 fun e654 w655 => ∃ n656 n657 : Int, ∃ s658 s659 s660 : Sl, ∃ t661 t662 : ByteArray, ∃ n663 n664 n665 : Int, e654 = .returned (.agg #[.int .i64 n656, .int .i64 n657, s658.val, s659.val, s660.val, .string t661, .string t662, .int .i64 n663, .int .i64 n664, .int .i64 n665]) ∧
 wrOk w655 ⟨b13, 0, none⟩ 10 ∧ ∀ w666 : World, w666 = stW w655 ⟨b13, 0, none⟩ 0 [.int .i64 n656, .int .i64 n657, s658.val, s659.val, s660.val, .string t661, .string t662, .int .i64 n663, .int .i64 n664, .int .i64 n665] →
 ∃ r667 r668 : Int, ∃ r669 r670 r671 : Sl, ∃ r672 r673 : ByteArray, ∃ r674 r675 r676 : Int, w666.cell? ⟨b13, 0, none⟩ = some (.int .i64 r667) ∧ w666.cell? ⟨b13, 1, none⟩ = some (.int .i64 r668) ∧ w666.cell? ⟨b13, 2, none⟩ = some (r669.val) ∧ w666.cell? ⟨b13, 3, none⟩ = some (r670.val) ∧ w666.cell? ⟨b13, 4, none⟩ = some (r671.val) ∧ w666.cell? ⟨b13, 5, none⟩ = some (.string r672) ∧ w666.cell? ⟨b13, 6, none⟩ = some (.string r673) ∧ w666.cell? ⟨b13, 7, none⟩ = some (.int .i64 r674) ∧ w666.cell? ⟨b13, 8, none⟩ = some (.int .i64 r675) ∧ w666.cell? ⟨b13, 9, none⟩ = some (.int .i64 r676) ∧
 K (.agg #[.int .i64 r667, .int .i64 r668, r669.val, r670.val, r671.val, .string r672, .string r673, .int .i64 r674, .int .i64 r675, .int .i64 r676]) w666)
 (wrOk w642 ⟨b59, 2, none⟩ 1 ∧ ∀ w677 : World, w677 = stW w642 ⟨b59, 2, none⟩ 0 [s408.val] →
 brB (n103 == (30 : Int))
 (∃ s678 : Sl, w677.cell? ⟨b59, 4, none⟩ = some (s678.val) ∧
 ∃ a679 : Addr, s678.ptr = some a679 ∧ 0 ≤ p413 ∧ p413 < (s678.len : Int) ∧
 ∃ n680 : Int, w677.cell? (Addr.add a679 (Int.toNat p413 * 1)) = some (.int .i64 n680) ∧
 ∀ (b681 : Nat) (w682 : World), b681 = w677.heap.size → w682 = World.alloc w677 (.cells #[.int .i64 n680] T_int) →
 ∃ s683 : Sl, ∃ w684 : World, (Builtin.append_ #[T_sl_int, T_sl_int] T_sl_int #[s408.val, .slice (some ⟨b681, 0, none⟩) 1 1]).run Tryz.prog w682 = .ok (s683.val) w684 ∧
 wrOk w684 ⟨b59, 2, none⟩ 1 ∧ ∀ w685 : World, w685 = stW w684 ⟨b59, 2, none⟩ 0 [s683.val] →
 J62  w685)
 (brB (n103 == (31 : Int))
 (∃ s686 : Sl, w677.cell? ⟨b59, 4, none⟩ = some (s686.val) ∧
 ∃ a687 : Addr, s686.ptr = some a687 ∧ 0 ≤ p413 ∧ p413 < (s686.len : Int) ∧
 wrOk w677 (Addr.add a687 (Int.toNat p413 * 1)) 1 ∧ ∀ w688 : World, w688 = stW w677 (Addr.add a687 (Int.toNat p413 * 1)) 0 [.int .i64 q412] →
 J62  w688)
 (∀ w689 : World, w689 = World.drew w677 →
 ∃ s690 : Sl, held (Lw w689) ⟨b59, 4, none⟩ (s690.val) ∧
 ∃ s691 : Sl, held (Lw w689) ⟨b59, 4, none⟩ (s691.val) ∧
 ∃ a692 : Addr, s691.ptr = some a692 ∧ 0 ≤ p413 ∧ p413 < (s691.len : Int) ∧
 ∃ n693 : Int, held (Lw w689) (Addr.add a692 (Int.toNat p413 * 1)) (.int .i64 n693) ∧
 ∃ a694 : Addr, s690.ptr = some a694 ∧ 0 ≤ p413 ∧ p413 < (s690.len : Int) ∧
 wrOk w689 (Addr.add a694 (Int.toNat p413 * 1)) 1 ∧ ∀ w695 : World, w695 = stW w689 (Addr.add a694 (Int.toNat p413 * 1)) 0 [.int .i64 (wr (n693 + q412))] →
 J62  w695)))) ∧
 brB (decide (p413 < (0 : Int)))
 (J92 true w639)
 (∃ s641 : Sl, w639.cell? ⟨b59, 4, none⟩ = some (s641.val) ∧
 J92 (decide (p413 ≥ (s641.len : Int))) w639))
 (brB (n103 == (33 : Int))
 (wrOk w639 ⟨b59, 2, none⟩ 1 ∧ ∀ w696 : World, w696 = stW w639 ⟨b59, 2, none⟩ 0 [s408.val] →
 ∃ s697 : Sl, w696.cell? ⟨b59, 3, none⟩ = some (s697.val) ∧
 ∀ (b698 : Nat) (w699 : World), b698 = w696.heap.size → w699 = World.alloc w696 (.cells #[.int .i64 p413] T_int) →
 ∃ s700 : Sl, ∃ w701 : World, (Builtin.append_ #[T_sl_int, T_sl_int] T_sl_int #[s697.val, .slice (some ⟨b698, 0, none⟩) 1 1]).run Tryz.prog w699 = .ok (s700.val) w701 ∧
 wrOk w701 ⟨b59, 3, none⟩ 1 ∧ ∀ w702 : World, w702 = stW w701 ⟨b59, 3, none⟩ 0 [s700.val] →
 J62  w702)
 (brB (n103 == (34 : Int))
 (∃ s703 : Sl, w639.cell? ⟨b59, 3, none⟩ = some (s703.val) ∧
 ∃ a704 : Addr, s703.ptr = some a704 ∧ 0 ≤ (wr ((s254.len : Int) - (1 : Int))) ∧ (wr ((s254.len : Int) - (1 : Int))) < (s703.len : Int) ∧
 ∃ n705 : Int, w639.cell? (Addr.add a704 (Int.toNat (wr ((s254.len : Int) - (1 : Int))) * 1)) = some (.int .i64 n705) ∧
 ∀ (b706 : Nat) (w707 : World), b706 = w639.heap.size → w707 = World.alloc w639 (.cells #[.int .i64 n705] T_int) →
 ∃ s708 : Sl, ∃ w709 : World, (Builtin.append_ #[T_sl_int, T_sl_int] T_sl_int #[s408.val, .slice (some ⟨b706, 0, none⟩) 1 1]).run Tryz.prog w707 = .ok (s708.val) w709 ∧
 wrOk w709 ⟨b59, 2, none⟩ 1 ∧ ∀ w710 : World, w710 = stW w709 ⟨b59, 2, none⟩ 0 [s708.val] →
 ∃ s711 : Sl, w710.cell? ⟨b59, 3, none⟩ = some (s711.val) ∧
 0 ≤ (wr ((s254.len : Int) - (1 : Int))) ∧ (wr ((s254.len : Int) - (1 : Int))) ≤ (s711.cap : Int) ∧ ∀ s712 : Sl, s712 = Sl.sub s711.ptr s711.cap 0 (Int.toNat (wr ((s254.len : Int) - (1 : Int)))) 1 →
 wrOk w710 ⟨b59, 3, none⟩ 1 ∧ ∀ w713 : World, w713 = stW w710 ⟨b59, 3, none⟩ 0 [s712.val] →
 J62  w713)
 (brB (n103 == (35 : Int))
 (∃ s714 : Sl, w639.cell? ⟨b59, 3, none⟩ = some (s714.val) ∧
 ∃ a715 : Addr, s714.ptr = some a715 ∧ 0 ≤ (wr ((s254.len : Int) - (1 : Int))) ∧ (wr ((s254.len : Int) - (1 : Int))) < (s714.len : Int) ∧
 ∃ n716 : Int, w639.cell? (Addr.add a715 (Int.toNat (wr ((s254.len : Int) - (1 : Int))) * 1)) = some (.int .i64 n716) ∧
 ∀ (b717 : Nat) (w718 : World), b717 = w639.heap.size → w718 = World.alloc w639 (.cells #[.int .i64 n716] T_int) →
 ∃ s719 : Sl, ∃ w720 : World, (Builtin.append_ #[T_sl_int, T_sl_int] T_sl_int #[s408.val, .slice (some ⟨b717, 0, none⟩) 1 1]).run Tryz.prog w718 = .ok (s719.val) w720 ∧
 wrOk w720 ⟨b59, 2, none⟩ 1 ∧ ∀ w721 : World, w721 = stW w720 ⟨b59, 2, none⟩ 0 [s719.val] →
 J62  w721)
 (brB (n103 == (36 : Int))
 (wrOk w639 ⟨b59, 2, none⟩ 1 ∧ ∀ w722 : World, w722 = stW w639 ⟨b59, 2, none⟩ 0 [s408.val] →
 ∃ s723 : Sl, w722.cell? ⟨b59, 3, none⟩ = some (s723.val) ∧
 ∀ (b724 : Nat) (w725 : World), b724 = w722.heap.size → w725 = World.alloc w722 (.cells #[.int .i64 q412, .int .i64 p413] T_int) →
 ∃ s726 : Sl, ∃ w727 : World, (Builtin.append_ #[T_sl_int, T_sl_int] T_sl_int #[s723.val, .slice (some ⟨b724, 0, none⟩) 2 2]).run Tryz.prog w725 = .ok (s726.val) w727 ∧
 wrOk w727 ⟨b59, 3, none⟩ 1 ∧ ∀ w728 : World, w728 = stW w727 ⟨b59, 3, none⟩ 0 [s726.val] →
 J62  w728)
 (∃ J105 : Bool → World → Prop, (∀ (b730 : Bool) (w729 : World), J105 b730 w729 →
 brB b730
 (wrOk w729 ⟨b59, 2, none⟩ 1 ∧ ∀ w731 : World, w731 = stW w729 ⟨b59, 2, none⟩ 0 [s408.val] →
 ∃ J109 : Int → World → Prop, (∀ (step740 : Int) (w732 : World), J109 step740 w732 →
 ∀ w733 : World, w733 = World.drew w732 →
 ∃ s734 : Sl, held (Lw w733) ⟨b59, 3, none⟩ (s734.val) ∧
 ∃ a735 : Addr, s734.ptr = some a735 ∧ 0 ≤ (wr ((s254.len : Int) - (1 : Int))) ∧ (wr ((s254.len : Int) - (1 : Int))) < (s734.len : Int) ∧
 ∃ n736 : Int, held (Lw w733) (Addr.add a735 (Int.toNat (wr ((s254.len : Int) - (1 : Int))) * 1)) (.int .i64 n736) ∧
 ∃ s737 : Sl, held (Lw w733) ⟨b59, 3, none⟩ (s737.val) ∧
 ∃ a738 : Addr, s737.ptr = some a738 ∧ 0 ≤ (wr ((s254.len : Int) - (2 : Int))) ∧ (wr ((s254.len : Int) - (2 : Int))) < (s737.len : Int) ∧
 ∃ n739 : Int, held (Lw w733) (Addr.add a738 (Int.toNat (wr ((s254.len : Int) - (2 : Int))) * 1)) (.int .i64 n739) ∧
 ∃ J113 : Bool → World → Prop, (∀ (ends745 : Bool) (w744 : World), J113 ends745 w744 →
 brB ends745
 (∃ s746 : Sl, w744.cell? ⟨b59, 3, none⟩ = some (s746.val) ∧
 0 ≤ (wr ((s254.len : Int) - (2 : Int))) ∧ (wr ((s254.len : Int) - (2 : Int))) ≤ (s746.cap : Int) ∧ ∀ s747 : Sl, s747 = Sl.sub s746.ptr s746.cap 0 (Int.toNat (wr ((s254.len : Int) - (2 : Int)))) 1 →
 wrOk w744 ⟨b59, 3, none⟩ 1 ∧ ∀ w748 : World, w748 = stW w744 ⟨b59, 3, none⟩ 0 [s747.val] →
 J62  w748)
 (∃ s749 : Sl, w744.cell? ⟨b59, 3, none⟩ = some (s749.val) ∧
 ∃ a750 : Addr, s749.ptr = some a750 ∧ 0 ≤ (wr ((s254.len : Int) - (1 : Int))) ∧ (wr ((s254.len : Int) - (1 : Int))) < (s749.len : Int) ∧
 wrOk w744 (Addr.add a750 (Int.toNat (wr ((s254.len : Int) - (1 : Int))) * 1)) 1 ∧ ∀ w751 : World, w751 = stW w744 (Addr.add a750 (Int.toNat (wr ((s254.len : Int) - (1 : Int))) * 1)) 0 [.int .i64 (wr (n736 + step740))] →
 wrOk w751 ⟨b59, 0, none⟩ 1 ∧ ∀ w752 : World, w752 = stW w751 ⟨b59, 0, none⟩ 0 [.int .i64 arg601] →
 J62  w752)) ∧
 brB (n103 == (38 : Int))
 (Calls Tryz.prog fn_hollowayref1_Crosses #[.int .i64 (wr (n736 - n739)), .int .i64 step740] w733 fun e741 w742 => ∃ b743 : Bool, e741 = .returned (.bool b743) ∧
 J113 b743 w742)
 (J113 ((wr (n736 + step740)) == n739) w733)) ∧
 brB (n103 == (38 : Int))
 (J109 p413 w731)
 (J109 (1 : Int) w731))
 (brB (n103 == (39 : Int))
 (∃ s753 : Sl, w729.cell? ⟨b59, 3, none⟩ = some (s753.val) ∧
 ∃ a754 : Addr, s753.ptr = some a754 ∧ 0 ≤ (wr ((s254.len : Int) - (3 : Int))) ∧ (wr ((s254.len : Int) - (3 : Int))) < (s753.len : Int) ∧
 ∃ n755 : Int, w729.cell? (Addr.add a754 (Int.toNat (wr ((s254.len : Int) - (3 : Int))) * 1)) = some (.int .i64 n755) ∧
 ∀ (b756 : Nat) (w757 : World), b756 = w729.heap.size → w757 = World.alloc w729 (.cells #[.int .i64 n755] T_int) →
 ∃ s758 : Sl, ∃ w759 : World, (Builtin.append_ #[T_sl_int, T_sl_int] T_sl_int #[s408.val, .slice (some ⟨b756, 0, none⟩) 1 1]).run Tryz.prog w757 = .ok (s758.val) w759 ∧
 wrOk w759 ⟨b59, 2, none⟩ 1 ∧ ∀ w760 : World, w760 = stW w759 ⟨b59, 2, none⟩ 0 [s758.val] →
 J62  w760)
 (brB (n103 == (40 : Int))
 (∃ s761 : Sl, w729.cell? ⟨b59, 3, none⟩ = some (s761.val) ∧
 0 ≤ (wr ((s254.len : Int) - (2 : Int))) ∧ (wr ((s254.len : Int) - (2 : Int))) ≤ (s761.cap : Int) ∧ ∀ s762 : Sl, s762 = Sl.sub s761.ptr s761.cap 0 (Int.toNat (wr ((s254.len : Int) - (2 : Int)))) 1 →
 wrOk w729 ⟨b59, 3, none⟩ 1 ∧ ∀ w763 : World, w763 = stW w729 ⟨b59, 3, none⟩ 0 [s762.val] →
 J62  w763)
 (∃ J119 : Bool → World → Prop, (∀ (b765 : Bool) (w764 : World), J119 b765 w764 →
 brB b765
 (∀ (b766 : Nat) (w767 : World), b766 = w764.heap.size → w767 = World.alloc w764 (.cells #[.int .u8 (IntKind.wrap .u8 (iand .i64 p413 (255 : Int)))] T_uint8) →
 ∃ t768 : ByteArray, ∃ w769 : World, (convert T_sl_uint8 T_string (.slice (some ⟨b766, 0, none⟩) 1 1)).run Tryz.prog w767 = .ok (.string t768) w769 ∧
 ∃ J122 : ByteArray → World → Prop, (∀ (t775 : ByteArray) (w773 : World), J122 t775 w773 →
 ∃ t774 : ByteArray, w773.cell? ⟨b59, 5, none⟩ = some (.string t774) ∧
 brB (decide ((wr ((t774.size : Int) + (t775.size : Int))) > (2000 : Int)))
 (∃ n776 n777 : Int, ∃ s778 s779 s780 : Sl, ∃ t781 t782 : ByteArray, ∃ n783 n784 n785 : Int, w773.cell? ⟨b11, 0, none⟩ = some (.int .i64 n776) ∧ w773.cell? ⟨b11, 1, none⟩ = some (.int .i64 n777) ∧ w773.cell? ⟨b11, 2, none⟩ = some (s778.val) ∧ w773.cell? ⟨b11, 3, none⟩ = some (s779.val) ∧ w773.cell? ⟨b11, 4, none⟩ = some (s780.val) ∧ w773.cell? ⟨b11, 5, none⟩ = some (.string t781) ∧ w773.cell? ⟨b11, 6, none⟩ = some (.string t782) ∧ w773.cell? ⟨b11, 7, none⟩ = some (.int .i64 n783) ∧ w773.cell? ⟨b11, 8, none⟩ = some (.int .i64 n784) ∧ w773.cell? ⟨b11, 9, none⟩ = some (.int .i64 n785) ∧
 Calls Tryz.prog fn_hollowayref9_Fault #[.agg #[.int .i64 n776, .int .i64 n777, s778.val, s779.val, s780.val, .string t781, .string t782, .int .i64 n783, .int .i64 n784, .int .i64 n785], .int .i64 (-57 : Int)] w773 fun e786 w787 => ∃ n788 n789 : Int, ∃ s790 s791 s792 : Sl, ∃ t793 t794 : ByteArray, ∃ n795 n796 n797 : Int, e786 = .returned (.agg #[.int .i64 n788, .int .i64 n789, s790.val, s791.val, s792.val, .string t793, .string t794, .int .i64 n795, .int .i64 n796, .int .i64 n797]) ∧
 wrOk w787 ⟨b13, 0, none⟩ 10 ∧ ∀ w798 : World, w798 = stW w787 ⟨b13, 0, none⟩ 0 [.int .i64 n788, .int .i64 n789, s790.val, s791.val, s792.val, .string t793, .string t794, .int .i64 n795, .int .i64 n796, .int .i64 n797] →
 ∃ r799 r800 : Int, ∃ r801 r802 r803 : Sl, ∃ r804 r805 : ByteArray, ∃ r806 r807 r808 : Int, w798.cell? ⟨b13, 0, none⟩ = some (.int .i64 r799) ∧ w798.cell? ⟨b13, 1, none⟩ = some (.int .i64 r800) ∧ w798.cell? ⟨b13, 2, none⟩ = some (r801.val) ∧ w798.cell? ⟨b13, 3, none⟩ = some (r802.val) ∧ w798.cell? ⟨b13, 4, none⟩ = some (r803.val) ∧ w798.cell? ⟨b13, 5, none⟩ = some (.string r804) ∧ w798.cell? ⟨b13, 6, none⟩ = some (.string r805) ∧ w798.cell? ⟨b13, 7, none⟩ = some (.int .i64 r806) ∧ w798.cell? ⟨b13, 8, none⟩ = some (.int .i64 r807) ∧ w798.cell? ⟨b13, 9, none⟩ = some (.int .i64 r808) ∧
 K (.agg #[.int .i64 r799, .int .i64 r800, r801.val, r802.val, r803.val, .string r804, .string r805, .int .i64 r806, .int .i64 r807, .int .i64 r808]) w798)
 (wrOk w773 ⟨b59, 2, none⟩ 1 ∧ ∀ w809 : World, w809 = stW w773 ⟨b59, 2, none⟩ 0 [s408.val] →
 ∃ t810 : ByteArray, w809.cell? ⟨b59, 5, none⟩ = some (.string t810) ∧
 ((t810).size : Int) + ((t775).size : Int) ≤ 9223372036854775807 ∧ wrOk w809 ⟨b59, 5, none⟩ 1 ∧ ∀ w811 : World, w811 = stW w809 ⟨b59, 5, none⟩ 0 [.string (t810 ++ t775)] →
 J62  w811)) ∧
 brB (n103 == (42 : Int))
 (Calls Tryz.prog fn_hollowayref1_Put #[.int .i64 p413, .int .i64 (10 : Int)] w769 fun e770 w771 => ∃ t772 : ByteArray, e770 = .returned (.string t772) ∧
 ((t772).size : Int) + (((bs [32])).size : Int) ≤ 9223372036854775807 ∧ J122 (t772 ++ (bs [32])) w771)
 (J122 t768 w769))
 (brB (n103 == (43 : Int))
 (∃ J130 : Int → World → Prop, (∀ (v819 : Int) (w818 : World), J130 v819 w818 →
 ∀ (b820 : Nat) (w821 : World), b820 = w818.heap.size → w821 = World.alloc w818 (.cells #[.int .i64 v819] T_int) →
 ∃ s822 : Sl, ∃ w823 : World, (Builtin.append_ #[T_sl_int, T_sl_int] T_sl_int #[s408.val, .slice (some ⟨b820, 0, none⟩) 1 1]).run Tryz.prog w821 = .ok (s822.val) w823 ∧
 wrOk w823 ⟨b59, 2, none⟩ 1 ∧ ∀ w824 : World, w824 = stW w823 ⟨b59, 2, none⟩ 0 [s822.val] →
 J62  w824) ∧
 ∃ n812 : Int, w764.cell? ⟨b59, 7, none⟩ = some (.int .i64 n812) ∧
 ∃ t813 : ByteArray, w764.cell? ⟨b59, 6, none⟩ = some (.string t813) ∧
 brB (decide (n812 < (t813.size : Int)))
 (∃ t814 : ByteArray, w764.cell? ⟨b59, 6, none⟩ = some (.string t814) ∧
 ∃ n815 : Int, w764.cell? ⟨b59, 7, none⟩ = some (.int .i64 n815) ∧
 0 ≤ n815 ∧ n815 < (t814.size : Int) ∧
 ∃ n816 : Int, w764.cell? ⟨b59, 7, none⟩ = some (.int .i64 n816) ∧
 wrOk w764 ⟨b59, 7, none⟩ 1 ∧ ∀ w817 : World, w817 = stW w764 ⟨b59, 7, none⟩ 0 [.int .i64 (wr (n816 + (1 : Int)))] →
 J130 (wr (sb t814 n815)) w817)
 (J130 (-1 : Int) w764))
 (brB (n103 == (44 : Int))
 (∃ J135 : Bool → World → Prop, (∀ (b827 : Bool) (w826 : World), J135 b827 w826 →
 brB b827
 (∃ n828 n829 : Int, ∃ s830 s831 s832 : Sl, ∃ t833 t834 : ByteArray, ∃ n835 n836 n837 : Int, w826.cell? ⟨b11, 0, none⟩ = some (.int .i64 n828) ∧ w826.cell? ⟨b11, 1, none⟩ = some (.int .i64 n829) ∧ w826.cell? ⟨b11, 2, none⟩ = some (s830.val) ∧ w826.cell? ⟨b11, 3, none⟩ = some (s831.val) ∧ w826.cell? ⟨b11, 4, none⟩ = some (s832.val) ∧ w826.cell? ⟨b11, 5, none⟩ = some (.string t833) ∧ w826.cell? ⟨b11, 6, none⟩ = some (.string t834) ∧ w826.cell? ⟨b11, 7, none⟩ = some (.int .i64 n835) ∧ w826.cell? ⟨b11, 8, none⟩ = some (.int .i64 n836) ∧ w826.cell? ⟨b11, 9, none⟩ = some (.int .i64 n837) ∧
 Calls Tryz.prog fn_hollowayref9_Fault #[.agg #[.int .i64 n828, .int .i64 n829, s830.val, s831.val, s832.val, .string t833, .string t834, .int .i64 n835, .int .i64 n836, .int .i64 n837], .int .i64 (-13 : Int)] w826 fun e838 w839 => ∃ n840 n841 : Int, ∃ s842 s843 s844 : Sl, ∃ t845 t846 : ByteArray, ∃ n847 n848 n849 : Int, e838 = .returned (.agg #[.int .i64 n840, .int .i64 n841, s842.val, s843.val, s844.val, .string t845, .string t846, .int .i64 n847, .int .i64 n848, .int .i64 n849]) ∧
 wrOk w839 ⟨b13, 0, none⟩ 10 ∧ ∀ w850 : World, w850 = stW w839 ⟨b13, 0, none⟩ 0 [.int .i64 n840, .int .i64 n841, s842.val, s843.val, s844.val, .string t845, .string t846, .int .i64 n847, .int .i64 n848, .int .i64 n849] →
 ∃ r851 r852 : Int, ∃ r853 r854 r855 : Sl, ∃ r856 r857 : ByteArray, ∃ r858 r859 r860 : Int, w850.cell? ⟨b13, 0, none⟩ = some (.int .i64 r851) ∧ w850.cell? ⟨b13, 1, none⟩ = some (.int .i64 r852) ∧ w850.cell? ⟨b13, 2, none⟩ = some (r853.val) ∧ w850.cell? ⟨b13, 3, none⟩ = some (r854.val) ∧ w850.cell? ⟨b13, 4, none⟩ = some (r855.val) ∧ w850.cell? ⟨b13, 5, none⟩ = some (.string r856) ∧ w850.cell? ⟨b13, 6, none⟩ = some (.string r857) ∧ w850.cell? ⟨b13, 7, none⟩ = some (.int .i64 r858) ∧ w850.cell? ⟨b13, 8, none⟩ = some (.int .i64 r859) ∧ w850.cell? ⟨b13, 9, none⟩ = some (.int .i64 r860) ∧
 K (.agg #[.int .i64 r851, .int .i64 r852, r853.val, r854.val, r855.val, .string r856, .string r857, .int .i64 r858, .int .i64 r859, .int .i64 r860]) w850)
 (wrOk w826 ⟨b59, 2, none⟩ 1 ∧ ∀ w861 : World, w861 = stW w826 ⟨b59, 2, none⟩ 0 [s408.val] →
 ∃ s862 : Sl, w861.cell? ⟨b59, 3, none⟩ = some (s862.val) ∧
 ∃ n863 : Int, w861.cell? ⟨b59, 0, none⟩ = some (.int .i64 n863) ∧
 ∀ (b864 : Nat) (w865 : World), b864 = w861.heap.size → w865 = World.alloc w861 (.cells #[.int .i64 n863] T_int) →
 ∃ s866 : Sl, ∃ w867 : World, (Builtin.append_ #[T_sl_int, T_sl_int] T_sl_int #[s862.val, .slice (some ⟨b864, 0, none⟩) 1 1]).run Tryz.prog w865 = .ok (s866.val) w867 ∧
 wrOk w867 ⟨b59, 3, none⟩ 1 ∧ ∀ w868 : World, w868 = stW w867 ⟨b59, 3, none⟩ 0 [s866.val] →
 wrOk w868 ⟨b59, 0, none⟩ 1 ∧ ∀ w869 : World, w869 = stW w868 ⟨b59, 0, none⟩ 0 [.int .i64 p413] →
 J62  w869)) ∧
 brB (decide (p413 < (64 : Int)))
 (J135 true w764)
 (∃ s825 : Sl, w764.cell? ⟨b59, 4, none⟩ = some (s825.val) ∧
 J135 (decide (p413 ≥ (s825.len : Int))) w764))
 (brB (n103 == (45 : Int))
 (wrOk w764 ⟨b59, 2, none⟩ 1 ∧ ∀ w870 : World, w870 = stW w764 ⟨b59, 2, none⟩ 0 [s408.val] →
 brB (p413 != (0 : Int))
 (∃ n871 : Int, w870.cell? ⟨b11, 0, none⟩ = some (.int .i64 n871) ∧
 wrOk w870 ⟨b59, 0, none⟩ 1 ∧ ∀ w872 : World, w872 = stW w870 ⟨b59, 0, none⟩ 0 [.int .i64 n871] →
 ∃ n873 n874 : Int, ∃ s875 s876 s877 : Sl, ∃ t878 t879 : ByteArray, ∃ n880 n881 n882 : Int, w872.cell? ⟨b59, 0, none⟩ = some (.int .i64 n873) ∧ w872.cell? ⟨b59, 1, none⟩ = some (.int .i64 n874) ∧ w872.cell? ⟨b59, 2, none⟩ = some (s875.val) ∧ w872.cell? ⟨b59, 3, none⟩ = some (s876.val) ∧ w872.cell? ⟨b59, 4, none⟩ = some (s877.val) ∧ w872.cell? ⟨b59, 5, none⟩ = some (.string t878) ∧ w872.cell? ⟨b59, 6, none⟩ = some (.string t879) ∧ w872.cell? ⟨b59, 7, none⟩ = some (.int .i64 n880) ∧ w872.cell? ⟨b59, 8, none⟩ = some (.int .i64 n881) ∧ w872.cell? ⟨b59, 9, none⟩ = some (.int .i64 n882) ∧
 Calls Tryz.prog fn_hollowayref9_Fault #[.agg #[.int .i64 n873, .int .i64 n874, s875.val, s876.val, s877.val, .string t878, .string t879, .int .i64 n880, .int .i64 n881, .int .i64 n882], .int .i64 p413] w872 fun e883 w884 => ∃ n885 n886 : Int, ∃ s887 s888 s889 : Sl, ∃ t890 t891 : ByteArray, ∃ n892 n893 n894 : Int, e883 = .returned (.agg #[.int .i64 n885, .int .i64 n886, s887.val, s888.val, s889.val, .string t890, .string t891, .int .i64 n892, .int .i64 n893, .int .i64 n894]) ∧
 wrOk w884 ⟨b13, 0, none⟩ 10 ∧ ∀ w895 : World, w895 = stW w884 ⟨b13, 0, none⟩ 0 [.int .i64 n885, .int .i64 n886, s887.val, s888.val, s889.val, .string t890, .string t891, .int .i64 n892, .int .i64 n893, .int .i64 n894] →
 ∃ r896 r897 : Int, ∃ r898 r899 r900 : Sl, ∃ r901 r902 : ByteArray, ∃ r903 r904 r905 : Int, w895.cell? ⟨b13, 0, none⟩ = some (.int .i64 r896) ∧ w895.cell? ⟨b13, 1, none⟩ = some (.int .i64 r897) ∧ w895.cell? ⟨b13, 2, none⟩ = some (r898.val) ∧ w895.cell? ⟨b13, 3, none⟩ = some (r899.val) ∧ w895.cell? ⟨b13, 4, none⟩ = some (r900.val) ∧ w895.cell? ⟨b13, 5, none⟩ = some (.string r901) ∧ w895.cell? ⟨b13, 6, none⟩ = some (.string r902) ∧ w895.cell? ⟨b13, 7, none⟩ = some (.int .i64 r903) ∧ w895.cell? ⟨b13, 8, none⟩ = some (.int .i64 r904) ∧ w895.cell? ⟨b13, 9, none⟩ = some (.int .i64 r905) ∧
 K (.agg #[.int .i64 r896, .int .i64 r897, r898.val, r899.val, r900.val, .string r901, .string r902, .int .i64 r903, .int .i64 r904, .int .i64 r905]) w895)
 (J62  w870))
 (brB (n103 == (46 : Int))
 (wrOk w764 ⟨b59, 2, none⟩ 1 ∧ ∀ w906 : World, w906 = stW w764 ⟨b59, 2, none⟩ 0 [s408.val] →
 ∃ s907 : Sl, w906.cell? ⟨b59, 3, none⟩ = some (s907.val) ∧
 ∃ n908 : Int, w906.cell? ⟨b59, 0, none⟩ = some (.int .i64 n908) ∧
 ∃ n909 : Int, w906.cell? ⟨b59, 1, none⟩ = some (.int .i64 n909) ∧
 ∀ (b910 : Nat) (w911 : World), b910 = w906.heap.size → w911 = World.alloc w906 (.cells #[.int .i64 n908, .int .i64 n909, .int .i64 (s408.len : Int)] T_int) →
 ∃ s912 : Sl, ∃ w913 : World, (Builtin.append_ #[T_sl_int, T_sl_int] T_sl_int #[s907.val, .slice (some ⟨b910, 0, none⟩) 3 3]).run Tryz.prog w911 = .ok (s912.val) w913 ∧
 wrOk w913 ⟨b59, 3, none⟩ 1 ∧ ∀ w914 : World, w914 = stW w913 ⟨b59, 3, none⟩ 0 [s912.val] →
 ∃ s915 : Sl, w914.cell? ⟨b59, 3, none⟩ = some (s915.val) ∧
 wrOk w914 ⟨b59, 1, none⟩ 1 ∧ ∀ w916 : World, w916 = stW w914 ⟨b59, 1, none⟩ 0 [.int .i64 (s915.len : Int)] →
 ∃ s917 : Sl, w916.cell? ⟨b59, 3, none⟩ = some (s917.val) ∧
 ∀ (b918 : Nat) (w919 : World), b918 = w916.heap.size → w919 = World.alloc w916 (.cells #[.int .i64 (1 : Int)] T_int) →
 ∃ s920 : Sl, ∃ w921 : World, (Builtin.append_ #[T_sl_int, T_sl_int] T_sl_int #[s917.val, .slice (some ⟨b918, 0, none⟩) 1 1]).run Tryz.prog w919 = .ok (s920.val) w921 ∧
 wrOk w921 ⟨b59, 3, none⟩ 1 ∧ ∀ w922 : World, w922 = stW w921 ⟨b59, 3, none⟩ 0 [s920.val] →
 wrOk w922 ⟨b59, 0, none⟩ 1 ∧ ∀ w923 : World, w923 = stW w922 ⟨b59, 0, none⟩ 0 [.int .i64 p413] →
 J62  w923)
 (J62  w764)))))) ∧
 brB (n103 == (41 : Int))
 (J119 (n103 == (41 : Int)) w729)
 (J119 (n103 == (42 : Int)) w729))))) ∧
 brB (n103 == (37 : Int))
 (J105 (n103 == (37 : Int)) w639)
 (J105 (n103 == (38 : Int)) w639))))))) ∧
 brB (n103 == (30 : Int))
 (J88 (n103 == (30 : Int)) w478)
 (brB (n103 == (31 : Int))
 (J88 (n103 == (31 : Int)) w478)
 (J88 (n103 == (32 : Int)) w478)))))))))))))))) ∧
 Calls Tryz.prog fn_hollowayref1_Arg #[.int .i64 n103] w400 fun e401 w402 => ∃ b403 : Bool, e401 = .returned (.bool b403) ∧
 brB b403
 (∃ n404 : Int, w402.cell? ⟨b59, 0, none⟩ = some (.int .i64 n404) ∧
 wrOk w402 ⟨b59, 0, none⟩ 1 ∧ ∀ w405 : World, w405 = stW w402 ⟨b59, 0, none⟩ 0 [.int .i64 (wr (n404 + (1 : Int)))] →
 J46  w405)
 (J46  w402)) ∧
 brB (decide ((s253.len : Int) > (2 : Int)))
 (∃ s395 : Sl, w394.cell? ⟨b59, 2, none⟩ = some (s395.val) ∧
 ∃ a396 : Addr, s395.ptr = some a396 ∧ 0 ≤ (wr ((s253.len : Int) - (3 : Int))) ∧ (wr ((s253.len : Int) - (3 : Int))) < (s395.len : Int) ∧
 ∃ n397 : Int, w394.cell? (Addr.add a396 (Int.toNat (wr ((s253.len : Int) - (3 : Int))) * 1)) = some (.int .i64 n397) ∧
 J43 n397 w394)
 (J43 (0 : Int) w394)) ∧
 brB (decide ((s253.len : Int) > (1 : Int)))
 (∃ s391 : Sl, w390.cell? ⟨b59, 2, none⟩ = some (s391.val) ∧
 ∃ a392 : Addr, s391.ptr = some a392 ∧ 0 ≤ (wr ((s253.len : Int) - (2 : Int))) ∧ (wr ((s253.len : Int) - (2 : Int))) < (s391.len : Int) ∧
 ∃ n393 : Int, w390.cell? (Addr.add a392 (Int.toNat (wr ((s253.len : Int) - (2 : Int))) * 1)) = some (.int .i64 n393) ∧
 J41 n393 w390)
 (J41 (0 : Int) w390)) ∧
 brB (decide ((s253.len : Int) > (0 : Int)))
 (∃ s387 : Sl, w252.cell? ⟨b59, 2, none⟩ = some (s387.val) ∧
 ∃ a388 : Addr, s387.ptr = some a388 ∧ 0 ≤ (wr ((s253.len : Int) - (1 : Int))) ∧ (wr ((s253.len : Int) - (1 : Int))) < (s387.len : Int) ∧
 ∃ n389 : Int, w252.cell? (Addr.add a388 (Int.toNat (wr ((s253.len : Int) - (1 : Int))) * 1)) = some (.int .i64 n389) ∧
 J39 n389 w252)
 (J39 (0 : Int) w252)))))) ∧
 Calls Tryz.prog fn_hollowayref1_Arg #[.int .i64 n103] w168 fun e203 w204 => ∃ b205 : Bool, e203 = .returned (.bool b205) ∧
 brB b205
 (∃ n206 : Int, w204.cell? ⟨b59, 0, none⟩ = some (.int .i64 n206) ∧
 ∃ s207 : Sl, w204.cell? ⟨b59, 4, none⟩ = some (s207.val) ∧
 brB (decide ((wr (n206 + (1 : Int))) ≥ (s207.len : Int)))
 (∃ n208 n209 : Int, ∃ s210 s211 s212 : Sl, ∃ t213 t214 : ByteArray, ∃ n215 n216 n217 : Int, w204.cell? ⟨b11, 0, none⟩ = some (.int .i64 n208) ∧ w204.cell? ⟨b11, 1, none⟩ = some (.int .i64 n209) ∧ w204.cell? ⟨b11, 2, none⟩ = some (s210.val) ∧ w204.cell? ⟨b11, 3, none⟩ = some (s211.val) ∧ w204.cell? ⟨b11, 4, none⟩ = some (s212.val) ∧ w204.cell? ⟨b11, 5, none⟩ = some (.string t213) ∧ w204.cell? ⟨b11, 6, none⟩ = some (.string t214) ∧ w204.cell? ⟨b11, 7, none⟩ = some (.int .i64 n215) ∧ w204.cell? ⟨b11, 8, none⟩ = some (.int .i64 n216) ∧ w204.cell? ⟨b11, 9, none⟩ = some (.int .i64 n217) ∧
 Calls Tryz.prog fn_hollowayref9_Fault #[.agg #[.int .i64 n208, .int .i64 n209, s210.val, s211.val, s212.val, .string t213, .string t214, .int .i64 n215, .int .i64 n216, .int .i64 n217], .int .i64 (-9 : Int)] w204 fun e218 w219 => ∃ n220 n221 : Int, ∃ s222 s223 s224 : Sl, ∃ t225 t226 : ByteArray, ∃ n227 n228 n229 : Int, e218 = .returned (.agg #[.int .i64 n220, .int .i64 n221, s222.val, s223.val, s224.val, .string t225, .string t226, .int .i64 n227, .int .i64 n228, .int .i64 n229]) ∧
 wrOk w219 ⟨b13, 0, none⟩ 10 ∧ ∀ w230 : World, w230 = stW w219 ⟨b13, 0, none⟩ 0 [.int .i64 n220, .int .i64 n221, s222.val, s223.val, s224.val, .string t225, .string t226, .int .i64 n227, .int .i64 n228, .int .i64 n229] →
 ∃ r231 r232 : Int, ∃ r233 r234 r235 : Sl, ∃ r236 r237 : ByteArray, ∃ r238 r239 r240 : Int, w230.cell? ⟨b13, 0, none⟩ = some (.int .i64 r231) ∧ w230.cell? ⟨b13, 1, none⟩ = some (.int .i64 r232) ∧ w230.cell? ⟨b13, 2, none⟩ = some (r233.val) ∧ w230.cell? ⟨b13, 3, none⟩ = some (r234.val) ∧ w230.cell? ⟨b13, 4, none⟩ = some (r235.val) ∧ w230.cell? ⟨b13, 5, none⟩ = some (.string r236) ∧ w230.cell? ⟨b13, 6, none⟩ = some (.string r237) ∧ w230.cell? ⟨b13, 7, none⟩ = some (.int .i64 r238) ∧ w230.cell? ⟨b13, 8, none⟩ = some (.int .i64 r239) ∧ w230.cell? ⟨b13, 9, none⟩ = some (.int .i64 r240) ∧
 K (.agg #[.int .i64 r231, .int .i64 r232, r233.val, r234.val, r235.val, .string r236, .string r237, .int .i64 r238, .int .i64 r239, .int .i64 r240]) w230)
 (∃ s241 : Sl, w204.cell? ⟨b59, 4, none⟩ = some (s241.val) ∧
 ∃ n242 : Int, w204.cell? ⟨b59, 0, none⟩ = some (.int .i64 n242) ∧
 ∃ a243 : Addr, s241.ptr = some a243 ∧ 0 ≤ (wr (n242 + (1 : Int))) ∧ (wr (n242 + (1 : Int))) < (s241.len : Int) ∧
 ∃ n244 : Int, w204.cell? (Addr.add a243 (Int.toNat (wr (n242 + (1 : Int))) * 1)) = some (.int .i64 n244) ∧
 J22 n244 w204))
 (J22 (0 : Int) w204))))) ∧
 ∃ n62 : Int, w61.cell? ⟨b59, 0, none⟩ = some (.int .i64 n62) ∧
 brB (decide (n62 < (0 : Int)))
 (J7 true w61)
 (∃ n63 : Int, w61.cell? ⟨b59, 0, none⟩ = some (.int .i64 n63) ∧
 ∃ s64 : Sl, w61.cell? ⟨b59, 4, none⟩ = some (s64.val) ∧
 J7 (decide (n63 ≥ (s64.len : Int))) w61))
def hollowayref9_Step_an : An := ⟨[], [(21, (8, .st 0 (.st 1 (.st 2 (.st 3 (.st 4 (.st 5 (.st 6 (.st 7 .done))))))), 0)), (61, (14, .st 0 (.st 1 (.st 2 (.st 3 (.st 4 (.st 5 (.st 6 (.st 7 (.st 8 (.st 9 (.st 10 (.st 11 (.st 12 (.ef 13 .done))))))))))))), 1)), (92, (11, .st 0 (.st 1 (.st 2 (.st 3 (.st 4 (.st 5 (.st 6 (.st 7 (.st 8 (.st 9 (.st 10 .done)))))))))), 0)), (114, (14, .st 0 (.st 1 (.st 2 (.st 3 (.st 4 (.st 5 (.st 6 (.st 7 (.st 8 (.st 9 (.st 10 (.st 11 (.st 12 (.st 13 .done))))))))))))), 0))], [(5, [(43, .bool)]), (58, [(228, .bool)]), (89, [(344, .bool)]), (118, [(24, .bool)]), (114, [(21, .int .i64)]), (131, [(25, .str)]), (140, [(26, .int .i64)]), (143, [(561, .bool)]), (128, [(499, .bool)]), (110, [(430, .bool)]), (88, [(332, .bool)]), (158, []), (40, []), (37, [(14, .int .i64)]), (35, [(13, .int .i64)]), (33, [(12, .int .i64)]), (20, [(5, .int .i64)])]⟩
theorem hollowayref9_Step_lift {was_Ip1 : Int} {was_Handler2 : Int} {was_Stack3 : Sl} {was_Back4 : Sl} {was_Mem5 : Sl} {was_Out6 : ByteArray} {was_In7 : ByteArray} {was_Read8 : Int} {was_Status9 : Int} {was_Code10 : Int} {w : World} {K : Value → World → Prop} (h : hollowayref9_Step_sh was_Ip1 was_Handler2 was_Stack3 was_Back4 was_Mem5 was_Out6 was_In7 was_Read8 was_Status9 was_Code10 w K) : Calls Tryz.prog fn_hollowayref9_Step #[.agg #[.int .i64 was_Ip1, .int .i64 was_Handler2, was_Stack3.val, was_Back4.val, was_Mem5.val, .string was_Out6, .string was_In7, .int .i64 was_Read8, .int .i64 was_Status9, .int .i64 was_Code10]] w fun e w' => ∃ v, e = .returned v ∧ K v w' :=
   lift_calls (A := hollowayref9_Step_an) (c := bodyOf Tryz.f25) (args := [.agg #[.int .i64 was_Ip1, .int .i64 was_Handler2, was_Stack3.val, was_Back4.val, was_Mem5.val, .string was_Out6, .string was_In7, .int .i64 was_Read8, .int .i64 was_Status9, .int .i64 was_Code10]]) orc orc_wide Tryz.func25 (by kernel_rfl) (by kernel_rfl) (Eq.mp (by kernel_rfl : hollowayref9_Step_sh was_Ip1 was_Handler2 was_Stack3 was_Back4 was_Mem5 was_Out6 was_In7 was_Read8 was_Status9 was_Code10 w K = wpc orc Tryz.f25.ntmps hollowayref9_Step_an (bodyOf Tryz.f25) (argl 0 [.agg #[.int .i64 was_Ip1, .int .i64 was_Handler2, was_Stack3.val, was_Back4.val, was_Mem5.val, .string was_Out6, .string was_In7, .int .i64 was_Read8, .int .i64 was_Status9, .int .i64 was_Code10]]) w (retQ orc Tryz.f25.results.toList K)) h)

def hollowayref9_Copy_sh (s1 : Int) (s2 : Int) (s3 : Sl) (s4 : Sl) (s5 : Sl) (s6 : ByteArray) (s7 : ByteArray) (s8 : Int) (s9 : Int) (s10 : Int) (w : World) (K : Value → World → Prop) : Prop :=
 ∀ (b11 : Nat) (w12 : World), b11 = w.heap.size → w12 = World.alloc w (.cells #[.int .i64 s1, .int .i64 s2, s3.val, s4.val, s5.val, .string s6, .string s7, .int .i64 s8, .int .i64 s9, .int .i64 s10] T_api_State) →
 ∀ (b13 : Nat) (w14 : World), b13 = w12.heap.size → w14 = World.alloc w12 (.cells #[.int .i64 (0 : Int), .int .i64 (0 : Int), .slice none 0 0, .slice none 0 0, .slice none 0 0, .string (bs []), .string (bs []), .int .i64 (0 : Int), .int .i64 (0 : Int), .int .i64 (0 : Int)] T_api_State) →
 ∃ s15 : Sl, w14.cell? ⟨b11, 2, none⟩ = some (s15.val) ∧
 ∃ s16 : Sl, ∃ w17 : World, (Builtin.append_ #[T_sl_int, T_sl_int] T_sl_int #[.slice none 0 0, s15.val]).run Tryz.prog w14 = .ok (s16.val) w17 ∧
 wrOk w17 ⟨b11, 2, none⟩ 1 ∧ ∀ w18 : World, w18 = stW w17 ⟨b11, 2, none⟩ 0 [s16.val] →
 ∃ s19 : Sl, w18.cell? ⟨b11, 3, none⟩ = some (s19.val) ∧
 ∃ s20 : Sl, ∃ w21 : World, (Builtin.append_ #[T_sl_int, T_sl_int] T_sl_int #[.slice none 0 0, s19.val]).run Tryz.prog w18 = .ok (s20.val) w21 ∧
 wrOk w21 ⟨b11, 3, none⟩ 1 ∧ ∀ w22 : World, w22 = stW w21 ⟨b11, 3, none⟩ 0 [s20.val] →
 ∃ s23 : Sl, w22.cell? ⟨b11, 4, none⟩ = some (s23.val) ∧
 ∃ s24 : Sl, ∃ w25 : World, (Builtin.append_ #[T_sl_int, T_sl_int] T_sl_int #[.slice none 0 0, s23.val]).run Tryz.prog w22 = .ok (s24.val) w25 ∧
 wrOk w25 ⟨b11, 4, none⟩ 1 ∧ ∀ w26 : World, w26 = stW w25 ⟨b11, 4, none⟩ 0 [s24.val] →
 ∃ n27 n28 : Int, ∃ s29 s30 s31 : Sl, ∃ t32 t33 : ByteArray, ∃ n34 n35 n36 : Int, w26.cell? ⟨b11, 0, none⟩ = some (.int .i64 n27) ∧ w26.cell? ⟨b11, 1, none⟩ = some (.int .i64 n28) ∧ w26.cell? ⟨b11, 2, none⟩ = some (s29.val) ∧ w26.cell? ⟨b11, 3, none⟩ = some (s30.val) ∧ w26.cell? ⟨b11, 4, none⟩ = some (s31.val) ∧ w26.cell? ⟨b11, 5, none⟩ = some (.string t32) ∧ w26.cell? ⟨b11, 6, none⟩ = some (.string t33) ∧ w26.cell? ⟨b11, 7, none⟩ = some (.int .i64 n34) ∧ w26.cell? ⟨b11, 8, none⟩ = some (.int .i64 n35) ∧ w26.cell? ⟨b11, 9, none⟩ = some (.int .i64 n36) ∧
 wrOk w26 ⟨b13, 0, none⟩ 10 ∧ ∀ w37 : World, w37 = stW w26 ⟨b13, 0, none⟩ 0 [.int .i64 n27, .int .i64 n28, s29.val, s30.val, s31.val, .string t32, .string t33, .int .i64 n34, .int .i64 n35, .int .i64 n36] →
 ∃ r38 r39 : Int, ∃ r40 r41 r42 : Sl, ∃ r43 r44 : ByteArray, ∃ r45 r46 r47 : Int, w37.cell? ⟨b13, 0, none⟩ = some (.int .i64 r38) ∧ w37.cell? ⟨b13, 1, none⟩ = some (.int .i64 r39) ∧ w37.cell? ⟨b13, 2, none⟩ = some (r40.val) ∧ w37.cell? ⟨b13, 3, none⟩ = some (r41.val) ∧ w37.cell? ⟨b13, 4, none⟩ = some (r42.val) ∧ w37.cell? ⟨b13, 5, none⟩ = some (.string r43) ∧ w37.cell? ⟨b13, 6, none⟩ = some (.string r44) ∧ w37.cell? ⟨b13, 7, none⟩ = some (.int .i64 r45) ∧ w37.cell? ⟨b13, 8, none⟩ = some (.int .i64 r46) ∧ w37.cell? ⟨b13, 9, none⟩ = some (.int .i64 r47) ∧
 K (.agg #[.int .i64 r38, .int .i64 r39, r40.val, r41.val, r42.val, .string r43, .string r44, .int .i64 r45, .int .i64 r46, .int .i64 r47]) w37
def hollowayref9_Copy_an : An := ⟨[], [], []⟩
theorem hollowayref9_Copy_lift {s1 : Int} {s2 : Int} {s3 : Sl} {s4 : Sl} {s5 : Sl} {s6 : ByteArray} {s7 : ByteArray} {s8 : Int} {s9 : Int} {s10 : Int} {w : World} {K : Value → World → Prop} (h : hollowayref9_Copy_sh s1 s2 s3 s4 s5 s6 s7 s8 s9 s10 w K) : Calls Tryz.prog fn_hollowayref9_Copy #[.agg #[.int .i64 s1, .int .i64 s2, s3.val, s4.val, s5.val, .string s6, .string s7, .int .i64 s8, .int .i64 s9, .int .i64 s10]] w fun e w' => ∃ v, e = .returned v ∧ K v w' :=
   lift_calls (A := hollowayref9_Copy_an) (c := bodyOf Tryz.f31) (args := [.agg #[.int .i64 s1, .int .i64 s2, s3.val, s4.val, s5.val, .string s6, .string s7, .int .i64 s8, .int .i64 s9, .int .i64 s10]]) orc orc_wide Tryz.func31 (by kernel_rfl) (by kernel_rfl) (Eq.mp (by kernel_rfl : hollowayref9_Copy_sh s1 s2 s3 s4 s5 s6 s7 s8 s9 s10 w K = wpc orc Tryz.f31.ntmps hollowayref9_Copy_an (bodyOf Tryz.f31) (argl 0 [.agg #[.int .i64 s1, .int .i64 s2, s3.val, s4.val, s5.val, .string s6, .string s7, .int .i64 s8, .int .i64 s9, .int .i64 s10]]) w (retQ orc Tryz.f31.results.toList K)) h)

def hollowayref9_Record_j1 (J3 : World → Prop) (b12 : Nat) (b69 : Nat) (n39 : Int) (b18 : Nat) (I1 : World → Prop) (μ1 : World → Nat) (w21 : World) (b91 : Bool) (w90 : World) (_K : Value → World → Prop) : Prop :=
 brB b91
 (J3  w90)
 (∃ n92 : Int, w90.cell? ⟨b12, 0, none⟩ = some (.int .i64 n92) ∧
 ∃ n93 : Int, w90.cell? ⟨b69, 0, none⟩ = some (.int .i64 n93) ∧
 ∀ (b94 : Nat) (w95 : World), b94 = w90.heap.size → w95 = World.alloc w90 (.cells #[.int .i64 (0 : Int), .int .i64 (0 : Int), .int .i64 (0 : Int), .int .i64 (0 : Int)] T_api_Seen) →
 wrOk w95 ⟨b94, 0, none⟩ 4 ∧ ∀ w96 : World, w96 = stW w95 ⟨b94, 0, none⟩ 0 [.int .i64 n92, .int .i64 n39, .int .i64 (0 : Int), .int .i64 n93] →
 ∃ J15 : World → Prop, (∀ (w105 : World), J15  w105 →
 ∃ s106 : Sl, w105.cell? ⟨b18, 3, none⟩ = some (s106.val) ∧
 ∃ n107 n108 : Int, ∃ n109 n110 : Int, w105.cell? ⟨b94, 0, none⟩ = some (.int .i64 n107) ∧ w105.cell? ⟨b94, 1, none⟩ = some (.int .i64 n108) ∧ w105.cell? ⟨b94, 2, none⟩ = some (.int .i64 n109) ∧ w105.cell? ⟨b94, 3, none⟩ = some (.int .i64 n110) ∧
 ∀ (b111 : Nat) (w112 : World), b111 = w105.heap.size → w112 = World.alloc w105 (.cells #[.int .i64 n107, .int .i64 n108, .int .i64 n109, .int .i64 n110] T_api_Seen) →
 ∃ s113 : Sl, ∃ w114 : World, (Builtin.append_ #[T_sl_api_Seen, T_sl_api_Seen] T_sl_api_Seen #[s106.val, .slice (some ⟨b111, 0, none⟩) 1 1]).run Tryz.prog w112 = .ok (s113.val) w114 ∧
 wrOk w114 ⟨b18, 3, none⟩ 1 ∧ ∀ w115 : World, w115 = stW w114 ⟨b18, 3, none⟩ 0 [s113.val] →
 ∃ n116 n117 : Int, ∃ s118 s119 s120 : Sl, ∃ t121 t122 : ByteArray, ∃ n123 n124 n125 : Int, w115.cell? ⟨b69, 0, none⟩ = some (.int .i64 n116) ∧ w115.cell? ⟨b69, 1, none⟩ = some (.int .i64 n117) ∧ w115.cell? ⟨b69, 2, none⟩ = some (s118.val) ∧ w115.cell? ⟨b69, 3, none⟩ = some (s119.val) ∧ w115.cell? ⟨b69, 4, none⟩ = some (s120.val) ∧ w115.cell? ⟨b69, 5, none⟩ = some (.string t121) ∧ w115.cell? ⟨b69, 6, none⟩ = some (.string t122) ∧ w115.cell? ⟨b69, 7, none⟩ = some (.int .i64 n123) ∧ w115.cell? ⟨b69, 8, none⟩ = some (.int .i64 n124) ∧ w115.cell? ⟨b69, 9, none⟩ = some (.int .i64 n125) ∧
 wrOk w115 ⟨b12, 0, none⟩ 10 ∧ ∀ w126 : World, w126 = stW w115 ⟨b12, 0, none⟩ 0 [.int .i64 n116, .int .i64 n117, s118.val, s119.val, s120.val, .string t121, .string t122, .int .i64 n123, .int .i64 n124, .int .i64 n125] →
 ∃ n127 : Int, w126.cell? ⟨b12, 0, none⟩ = some (.int .i64 n127) ∧
 wrOk w126 ⟨b18, 1, none⟩ 1 ∧ ∀ w128 : World, w128 = stW w126 ⟨b18, 1, none⟩ 0 [.int .i64 n127] →
 ∃ n129 : Int, w128.cell? ⟨b12, 0, none⟩ = some (.int .i64 n129) ∧
 ∃ n130 : Int, w128.cell? ⟨b18, 0, none⟩ = some (.int .i64 n130) ∧
 wrOk w128 ⟨b18, 2, none⟩ 1 ∧ ∀ w131 : World, w131 = stW w128 ⟨b18, 2, none⟩ 0 [.bool (n129 == n130)] →
 I1  w131 ∧ μ1  w131 < μ1  w21) ∧
 Calls Tryz.prog fn_hollowayref1_Arg #[.int .i64 n39] w96 fun e97 w98 => ∃ b99 : Bool, e97 = .returned (.bool b99) ∧
 brB b99
 (∃ s100 : Sl, w98.cell? ⟨b12, 4, none⟩ = some (s100.val) ∧
 ∃ n101 : Int, w98.cell? ⟨b12, 0, none⟩ = some (.int .i64 n101) ∧
 ∃ a102 : Addr, s100.ptr = some a102 ∧ 0 ≤ (wr (n101 + (1 : Int))) ∧ (wr (n101 + (1 : Int))) < (s100.len : Int) ∧
 ∃ n103 : Int, w98.cell? (Addr.add a102 (Int.toNat (wr (n101 + (1 : Int))) * 1)) = some (.int .i64 n103) ∧
 wrOk w98 ⟨b94, 2, none⟩ 1 ∧ ∀ w104 : World, w104 = stW w98 ⟨b94, 2, none⟩ 0 [.int .i64 n103] →
 J15  w104)
 (J15  w98))
def hollowayref9_Record_j2 (J3 : World → Prop) (b12 : Nat) (n39 : Int) (b18 : Nat) (I1 : World → Prop) (μ1 : World → Nat) (w21 : World) (b46 : Bool) (w45 : World) (K : Value → World → Prop) : Prop :=
 brB b46
 (J3  w45)
 (∃ n47 n48 : Int, ∃ s49 s50 s51 : Sl, ∃ t52 t53 : ByteArray, ∃ n54 n55 n56 : Int, w45.cell? ⟨b12, 0, none⟩ = some (.int .i64 n47) ∧ w45.cell? ⟨b12, 1, none⟩ = some (.int .i64 n48) ∧ w45.cell? ⟨b12, 2, none⟩ = some (s49.val) ∧ w45.cell? ⟨b12, 3, none⟩ = some (s50.val) ∧ w45.cell? ⟨b12, 4, none⟩ = some (s51.val) ∧ w45.cell? ⟨b12, 5, none⟩ = some (.string t52) ∧ w45.cell? ⟨b12, 6, none⟩ = some (.string t53) ∧ w45.cell? ⟨b12, 7, none⟩ = some (.int .i64 n54) ∧ w45.cell? ⟨b12, 8, none⟩ = some (.int .i64 n55) ∧ w45.cell? ⟨b12, 9, none⟩ = some (.int .i64 n56) ∧
 Calls Tryz.prog fn_hollowayref9_Step #[.agg #[.int .i64 n47, .int .i64 n48, s49.val, s50.val, s51.val, .string t52, .string t53, .int .i64 n54, .int .i64 n55, .int .i64 n56]] w45 fun e57 w58 => ∃ n59 n60 : Int, ∃ s61 s62 s63 : Sl, ∃ t64 t65 : ByteArray, ∃ n66 n67 n68 : Int, e57 = .returned (.agg #[.int .i64 n59, .int .i64 n60, s61.val, s62.val, s63.val, .string t64, .string t65, .int .i64 n66, .int .i64 n67, .int .i64 n68]) ∧
 ∀ (b69 : Nat) (w70 : World), b69 = w58.heap.size → w70 = World.alloc w58 (.cells #[.int .i64 (0 : Int), .int .i64 (0 : Int), .slice none 0 0, .slice none 0 0, .slice none 0 0, .string (bs []), .string (bs []), .int .i64 (0 : Int), .int .i64 (0 : Int), .int .i64 (0 : Int)] T_api_State) →
 wrOk w70 ⟨b69, 0, none⟩ 10 ∧ ∀ w71 : World, w71 = stW w70 ⟨b69, 0, none⟩ 0 [.int .i64 n59, .int .i64 n60, s61.val, s62.val, s63.val, .string t64, .string t65, .int .i64 n66, .int .i64 n67, .int .i64 n68] →
 ∃ n72 : Int, w71.cell? ⟨b69, 8, none⟩ = some (.int .i64 n72) ∧
 brB (n72 != (0 : Int))
 (hollowayref9_Record_j1 J3 b12 b69 n39 b18 I1 (μ1) w21 true w71 K)
 (∃ n73 n74 : Int, ∃ s75 s76 s77 : Sl, ∃ t78 t79 : ByteArray, ∃ n80 n81 n82 : Int, w71.cell? ⟨b12, 0, none⟩ = some (.int .i64 n73) ∧ w71.cell? ⟨b12, 1, none⟩ = some (.int .i64 n74) ∧ w71.cell? ⟨b12, 2, none⟩ = some (s75.val) ∧ w71.cell? ⟨b12, 3, none⟩ = some (s76.val) ∧ w71.cell? ⟨b12, 4, none⟩ = some (s77.val) ∧ w71.cell? ⟨b12, 5, none⟩ = some (.string t78) ∧ w71.cell? ⟨b12, 6, none⟩ = some (.string t79) ∧ w71.cell? ⟨b12, 7, none⟩ = some (.int .i64 n80) ∧ w71.cell? ⟨b12, 8, none⟩ = some (.int .i64 n81) ∧ w71.cell? ⟨b12, 9, none⟩ = some (.int .i64 n82) ∧
 Calls Tryz.prog fn_hollowayref9_faults #[.agg #[.int .i64 n73, .int .i64 n74, s75.val, s76.val, s77.val, .string t78, .string t79, .int .i64 n80, .int .i64 n81, .int .i64 n82]] w71 fun e83 w84 => ∃ b85 : Bool, e83 = .returned (.bool b85) ∧
 brB b85
 (hollowayref9_Record_j1 J3 b12 b69 n39 b18 I1 (μ1) w21 true w84 K)
 (∃ n86 : Int, w84.cell? ⟨b69, 0, none⟩ = some (.int .i64 n86) ∧
 brB (decide (n86 < (0 : Int)))
 (hollowayref9_Record_j1 J3 b12 b69 n39 b18 I1 (μ1) w21 true w84 K)
 (∃ n87 : Int, w84.cell? ⟨b69, 0, none⟩ = some (.int .i64 n87) ∧
 hollowayref9_Record_j1 J3 b12 b69 n39 b18 I1 (μ1) w21 (decide (n87 ≥ (3000 : Int))) w84 K))))
def hollowayref9_Record_j3 (J3 : World → Prop) (b12 : Nat) (b18 : Nat) (I1 : World → Prop) (μ1 : World → Nat) (w21 : World) (b35 : Bool) (w34 : World) (K : Value → World → Prop) : Prop :=
 brB b35
 (J3  w34)
 (∃ s36 : Sl, w34.cell? ⟨b12, 4, none⟩ = some (s36.val) ∧
 ∃ n37 : Int, w34.cell? ⟨b12, 0, none⟩ = some (.int .i64 n37) ∧
 ∃ a38 : Addr, s36.ptr = some a38 ∧ 0 ≤ n37 ∧ n37 < (s36.len : Int) ∧
 ∃ n39 : Int, w34.cell? (Addr.add a38 (Int.toNat n37 * 1)) = some (.int .i64 n39) ∧
 brB (decide (n39 < (64 : Int)))
 (Calls Tryz.prog fn_hollowayref1_Plain #[.int .i64 n39] w34 fun e40 w41 => ∃ b42 : Bool, e40 = .returned (.bool b42) ∧
 hollowayref9_Record_j2 J3 b12 n39 b18 I1 (μ1) w21 (!b42) w41 K)
 (hollowayref9_Record_j2 J3 b12 n39 b18 I1 (μ1) w21 false w34 K))
def hollowayref9_Record_j4 (b12 : Nat) (J3 : World → Prop) (b18 : Nat) (I1 : World → Prop) (μ1 : World → Nat) (w21 : World) (b28 : Bool) (w27 : World) (K : Value → World → Prop) : Prop :=
 brB b28
 (∃ n29 : Int, w27.cell? ⟨b12, 0, none⟩ = some (.int .i64 n29) ∧
 brB (decide (n29 < (0 : Int)))
 (hollowayref9_Record_j3 J3 b12 b18 I1 (μ1) w21 true w27 K)
 (∃ n30 : Int, w27.cell? ⟨b12, 0, none⟩ = some (.int .i64 n30) ∧
 ∃ s31 : Sl, w27.cell? ⟨b12, 4, none⟩ = some (s31.val) ∧
 hollowayref9_Record_j3 J3 b12 b18 I1 (μ1) w21 (decide (n30 ≥ (s31.len : Int))) w27 K))
 (J3  w27)
def hollowayref9_Record_sh (s1 : Int) (s2 : Int) (s3 : Sl) (s4 : Sl) (s5 : Sl) (s6 : ByteArray) (s7 : ByteArray) (s8 : Int) (s9 : Int) (s10 : Int) (most11 : Int) (w : World) (K : Value → World → Prop) : Prop :=
 ∀ (b12 : Nat) (w13 : World), b12 = w.heap.size → w13 = World.alloc w (.cells #[.int .i64 s1, .int .i64 s2, s3.val, s4.val, s5.val, .string s6, .string s7, .int .i64 s8, .int .i64 s9, .int .i64 s10] T_api_State) →
 ∀ (b14 : Nat) (w15 : World), b14 = w13.heap.size → w15 = World.alloc w13 (.cells #[.int .i64 (0 : Int), .int .i64 (0 : Int), .bool false, .slice none 0 0] T_api_Recording) →
 ∃ n16 : Int, w15.cell? ⟨b12, 0, none⟩ = some (.int .i64 n16) ∧
 ∃ n17 : Int, w15.cell? ⟨b12, 0, none⟩ = some (.int .i64 n17) ∧
 ∀ (b18 : Nat) (w19 : World), b18 = w15.heap.size → w19 = World.alloc w15 (.cells #[.int .i64 (0 : Int), .int .i64 (0 : Int), .bool false, .slice none 0 0] T_api_Recording) →
 wrOk w19 ⟨b18, 0, none⟩ 4 ∧ ∀ w20 : World, w20 = stW w19 ⟨b18, 0, none⟩ 0 [.int .i64 n16, .int .i64 n17, .bool false, .slice none 0 0] →
 ∃ J3 : World → Prop, (∀ (w132 : World), J3  w132 →
 ∃ n133 n134 : Int, ∃ b135 : Bool, ∃ s136 : Sl, w132.cell? ⟨b18, 0, none⟩ = some (.int .i64 n133) ∧ w132.cell? ⟨b18, 1, none⟩ = some (.int .i64 n134) ∧ w132.cell? ⟨b18, 2, none⟩ = some (.bool b135) ∧ w132.cell? ⟨b18, 3, none⟩ = some (s136.val) ∧
 wrOk w132 ⟨b14, 0, none⟩ 4 ∧ ∀ w137 : World, w137 = stW w132 ⟨b14, 0, none⟩ 0 [.int .i64 n133, .int .i64 n134, .bool b135, s136.val] →
 ∃ r138 r139 : Int, ∃ r140 : Bool, ∃ r141 : Sl, w137.cell? ⟨b14, 0, none⟩ = some (.int .i64 r138) ∧ w137.cell? ⟨b14, 1, none⟩ = some (.int .i64 r139) ∧ w137.cell? ⟨b14, 2, none⟩ = some (.bool r140) ∧ w137.cell? ⟨b14, 3, none⟩ = some (r141.val) ∧
 K (.agg #[.int .i64 r138, .int .i64 r139, .bool r140, r141.val]) w137) ∧
 ∃ (I1 : World → Prop) (μ1 : World → Nat), I1  w20 ∧ ∀ (w21 : World), I1  w21 →
 ∃ s22 : Sl, w21.cell? ⟨b18, 3, none⟩ = some (s22.val) ∧
 brB (decide ((s22.len : Int) < (imin (imax most11 (0 : Int)) (120 : Int))))
 (∃ n23 : Int, w21.cell? ⟨b12, 8, none⟩ = some (.int .i64 n23) ∧
 brB (n23 == (0 : Int))
 (∃ b24 : Bool, w21.cell? ⟨b18, 2, none⟩ = some (.bool b24) ∧
 hollowayref9_Record_j4 b12 J3 b18 I1 (μ1) w21 (!b24) w21 K)
 (hollowayref9_Record_j4 b12 J3 b18 I1 (μ1) w21 false w21 K))
 (hollowayref9_Record_j4 b12 J3 b18 I1 (μ1) w21 false w21 K)
def hollowayref9_Record_an : An := ⟨[(2, [])], [], [(11, []), (15, [])]⟩
theorem hollowayref9_Record_lift {s1 : Int} {s2 : Int} {s3 : Sl} {s4 : Sl} {s5 : Sl} {s6 : ByteArray} {s7 : ByteArray} {s8 : Int} {s9 : Int} {s10 : Int} {most11 : Int} {w : World} {K : Value → World → Prop} (h : hollowayref9_Record_sh s1 s2 s3 s4 s5 s6 s7 s8 s9 s10 most11 w K) : Calls Tryz.prog fn_hollowayref9_Record #[.agg #[.int .i64 s1, .int .i64 s2, s3.val, s4.val, s5.val, .string s6, .string s7, .int .i64 s8, .int .i64 s9, .int .i64 s10], .int .i64 most11] w fun e w' => ∃ v, e = .returned v ∧ K v w' :=
   lift_calls (A := hollowayref9_Record_an) (c := bodyOf Tryz.f34) (args := [.agg #[.int .i64 s1, .int .i64 s2, s3.val, s4.val, s5.val, .string s6, .string s7, .int .i64 s8, .int .i64 s9, .int .i64 s10], .int .i64 most11]) orc orc_wide Tryz.func34 (by kernel_rfl) (by kernel_rfl) (Eq.mp (by kernel_rfl : hollowayref9_Record_sh s1 s2 s3 s4 s5 s6 s7 s8 s9 s10 most11 w K = wpc orc Tryz.f34.ntmps hollowayref9_Record_an (bodyOf Tryz.f34) (argl 0 [.agg #[.int .i64 s1, .int .i64 s2, s3.val, s4.val, s5.val, .string s6, .string s7, .int .i64 s8, .int .i64 s9, .int .i64 s10], .int .i64 most11]) w (retQ orc Tryz.f34.results.toList K)) h)

def hollowayref9_Cells_sh (r1 : Int) (r2 : Int) (r3 : Bool) (r4 : Sl) (w : World) (K : Value → World → Prop) : Prop :=
 ∀ (b5 : Nat) (w6 : World), b5 = w.heap.size → w6 = World.alloc w (.cells #[.int .i64 r1, .int .i64 r2, .bool r3, r4.val] T_api_Recording) →
 ∃ s7 : Sl, ∃ w8 : World, (Instr.makeSlice T_sl_bool (.int .i64 (3001 : Int)) (.int .i64 (3001 : Int))).run Tryz.prog w6 = .ok s7.val w8 ∧
 ∃ (I1 : Int → World → Prop) (μ1 : Int → World → Nat), I1 (0 : Int) w8 ∧ ∀ (i10 : Int) (w9 : World), I1 i10 w9 →
 ∃ s11 : Sl, w9.cell? ⟨b5, 3, none⟩ = some (s11.val) ∧
 brB (decide (i10 < (s11.len : Int)))
 (∃ J7 : World → Prop, (∀ (w28 : World), J7  w28 →
 I1 (wr (i10 + (1 : Int))) w28 ∧ μ1 (wr (i10 + (1 : Int))) w28 < μ1 i10 w9) ∧
 ∃ s12 : Sl, w9.cell? ⟨b5, 3, none⟩ = some (s12.val) ∧
 ∃ a13 : Addr, s12.ptr = some a13 ∧ 0 ≤ i10 ∧ i10 < (s12.len : Int) ∧
 ∃ n14 : Int, w9.cell? (Addr.add a13 (Int.toNat i10 * 4)) = some (.int .i64 n14) ∧
 ∃ a15 : Addr, s7.ptr = some a15 ∧ 0 ≤ n14 ∧ n14 < (s7.len : Int) ∧
 wrOk w9 (Addr.add a15 (Int.toNat n14 * 1)) 1 ∧ ∀ w16 : World, w16 = stW w9 (Addr.add a15 (Int.toNat n14 * 1)) 0 [.bool true] →
 ∃ s17 : Sl, w16.cell? ⟨b5, 3, none⟩ = some (s17.val) ∧
 ∃ a18 : Addr, s17.ptr = some a18 ∧ 0 ≤ i10 ∧ i10 < (s17.len : Int) ∧
 ∃ n19 : Int, w16.cell? (Addr.add (Addr.add a18 (Int.toNat i10 * 4)) 1) = some (.int .i64 n19) ∧
 Calls Tryz.prog fn_hollowayref1_Arg #[.int .i64 n19] w16 fun e20 w21 => ∃ b22 : Bool, e20 = .returned (.bool b22) ∧
 brB b22
 (∃ s23 : Sl, w21.cell? ⟨b5, 3, none⟩ = some (s23.val) ∧
 ∃ a24 : Addr, s23.ptr = some a24 ∧ 0 ≤ i10 ∧ i10 < (s23.len : Int) ∧
 ∃ n25 : Int, w21.cell? (Addr.add a24 (Int.toNat i10 * 4)) = some (.int .i64 n25) ∧
 ∃ a26 : Addr, s7.ptr = some a26 ∧ 0 ≤ (wr (n25 + (1 : Int))) ∧ (wr (n25 + (1 : Int))) < (s7.len : Int) ∧
 wrOk w21 (Addr.add a26 (Int.toNat (wr (n25 + (1 : Int))) * 1)) 1 ∧ ∀ w27 : World, w27 = stW w21 (Addr.add a26 (Int.toNat (wr (n25 + (1 : Int))) * 1)) 0 [.bool true] →
 J7  w27)
 (J7  w21))
 (∃ (I2 : Sl → Int → World → Prop) (μ2 : Sl → Int → World → Nat), I2 (⟨none, 0, 0⟩ : Sl) (0 : Int) w9 ∧ ∀ (out33 : Sl) (k30 : Int) (w29 : World), I2 out33 k30 w29 →
 brB (decide (k30 < (s7.len : Int)))
 (∃ J15 : Sl → World → Prop, (∀ (out39 : Sl) (w38 : World), J15 out39 w38 →
 I2 out39 (wr (k30 + (1 : Int))) w38 ∧ μ2 out39 (wr (k30 + (1 : Int))) w38 < μ2 out33 k30 w29) ∧
 ∃ a31 : Addr, s7.ptr = some a31 ∧ 0 ≤ k30 ∧ k30 < (s7.len : Int) ∧
 ∃ b32 : Bool, w29.cell? (Addr.add a31 (Int.toNat k30 * 1)) = some (.bool b32) ∧
 brB b32
 (∀ (b34 : Nat) (w35 : World), b34 = w29.heap.size → w35 = World.alloc w29 (.cells #[.int .i64 k30] T_int) →
 ∃ s36 : Sl, ∃ w37 : World, (Builtin.append_ #[T_sl_int, T_sl_int] T_sl_int #[out33.val, .slice (some ⟨b34, 0, none⟩) 1 1]).run Tryz.prog w35 = .ok (s36.val) w37 ∧
 J15 s36 w37)
 (J15 out33 w29))
 (K (out33.val) w29))
def hollowayref9_Cells_an : An := ⟨[(3, [(4, .int .i64)]), (10, [(5, .sl), (6, .int .i64)])], [], [(4, []), (11, [(5, .sl)])]⟩
theorem hollowayref9_Cells_lift {r1 : Int} {r2 : Int} {r3 : Bool} {r4 : Sl} {w : World} {K : Value → World → Prop} (h : hollowayref9_Cells_sh r1 r2 r3 r4 w K) : Calls Tryz.prog fn_hollowayref9_Cells #[.agg #[.int .i64 r1, .int .i64 r2, .bool r3, r4.val]] w fun e w' => ∃ v, e = .returned v ∧ K v w' :=
   lift_calls (A := hollowayref9_Cells_an) (c := bodyOf Tryz.f40) (args := [.agg #[.int .i64 r1, .int .i64 r2, .bool r3, r4.val]]) orc orc_wide Tryz.func40 (by kernel_rfl) (by kernel_rfl) (Eq.mp (by kernel_rfl : hollowayref9_Cells_sh r1 r2 r3 r4 w K = wpc orc Tryz.f40.ntmps hollowayref9_Cells_an (bodyOf Tryz.f40) (argl 0 [.agg #[.int .i64 r1, .int .i64 r2, .bool r3, r4.val]]) w (retQ orc Tryz.f40.results.toList K)) h)

def hollowayref9_faults_sh (s1 : Int) (s2 : Int) (s3 : Sl) (s4 : Sl) (s5 : Sl) (s6 : ByteArray) (s7 : ByteArray) (s8 : Int) (s9 : Int) (s10 : Int) (w : World) (K : Value → World → Prop) : Prop :=
 ∀ (b11 : Nat) (w12 : World), b11 = w.heap.size → w12 = World.alloc w (.cells #[.int .i64 s1, .int .i64 s2, s3.val, s4.val, s5.val, .string s6, .string s7, .int .i64 s8, .int .i64 s9, .int .i64 s10] T_api_State) →
 wrOk w12 ⟨b11, 1, none⟩ 1 ∧ ∀ w13 : World, w13 = stW w12 ⟨b11, 1, none⟩ 0 [.int .i64 (0 : Int)] →
 ∃ n14 n15 : Int, ∃ s16 s17 s18 : Sl, ∃ t19 t20 : ByteArray, ∃ n21 n22 n23 : Int, w13.cell? ⟨b11, 0, none⟩ = some (.int .i64 n14) ∧ w13.cell? ⟨b11, 1, none⟩ = some (.int .i64 n15) ∧ w13.cell? ⟨b11, 2, none⟩ = some (s16.val) ∧ w13.cell? ⟨b11, 3, none⟩ = some (s17.val) ∧ w13.cell? ⟨b11, 4, none⟩ = some (s18.val) ∧ w13.cell? ⟨b11, 5, none⟩ = some (.string t19) ∧ w13.cell? ⟨b11, 6, none⟩ = some (.string t20) ∧ w13.cell? ⟨b11, 7, none⟩ = some (.int .i64 n21) ∧ w13.cell? ⟨b11, 8, none⟩ = some (.int .i64 n22) ∧ w13.cell? ⟨b11, 9, none⟩ = some (.int .i64 n23) ∧
 Calls Tryz.prog fn_hollowayref9_Step #[.agg #[.int .i64 n14, .int .i64 n15, s16.val, s17.val, s18.val, .string t19, .string t20, .int .i64 n21, .int .i64 n22, .int .i64 n23]] w13 fun e24 w25 => ∃ n26 n27 : Int, ∃ s28 s29 s30 : Sl, ∃ t31 t32 : ByteArray, ∃ n33 n34 n35 : Int, e24 = .returned (.agg #[.int .i64 n26, .int .i64 n27, s28.val, s29.val, s30.val, .string t31, .string t32, .int .i64 n33, .int .i64 n34, .int .i64 n35]) ∧
 K (.bool (n34 == (2 : Int))) w25
def hollowayref9_faults_an : An := ⟨[], [], []⟩
theorem hollowayref9_faults_lift {s1 : Int} {s2 : Int} {s3 : Sl} {s4 : Sl} {s5 : Sl} {s6 : ByteArray} {s7 : ByteArray} {s8 : Int} {s9 : Int} {s10 : Int} {w : World} {K : Value → World → Prop} (h : hollowayref9_faults_sh s1 s2 s3 s4 s5 s6 s7 s8 s9 s10 w K) : Calls Tryz.prog fn_hollowayref9_faults #[.agg #[.int .i64 s1, .int .i64 s2, s3.val, s4.val, s5.val, .string s6, .string s7, .int .i64 s8, .int .i64 s9, .int .i64 s10]] w fun e w' => ∃ v, e = .returned v ∧ K v w' :=
   lift_calls (A := hollowayref9_faults_an) (c := bodyOf Tryz.f86) (args := [.agg #[.int .i64 s1, .int .i64 s2, s3.val, s4.val, s5.val, .string s6, .string s7, .int .i64 s8, .int .i64 s9, .int .i64 s10]]) orc orc_wide Tryz.func86 (by kernel_rfl) (by kernel_rfl) (Eq.mp (by kernel_rfl : hollowayref9_faults_sh s1 s2 s3 s4 s5 s6 s7 s8 s9 s10 w K = wpc orc Tryz.f86.ntmps hollowayref9_faults_an (bodyOf Tryz.f86) (argl 0 [.agg #[.int .i64 s1, .int .i64 s2, s3.val, s4.val, s5.val, .string s6, .string s7, .int .i64 s8, .int .i64 s9, .int .i64 s10]]) w (retQ orc Tryz.f86.results.toList K)) h)

end Go.Proofs.YtkjpmkopnkkbmaaGreatDoor

/- Functions of Hollowaylaw9, read without their frames; that each is enough. Printed by a program of mine (wip/lift/gen.py). -/
set_option maxRecDepth 100000
namespace Go.Proofs.YtkjpmkopnkkbmaaGreatDoor
open Go.RowKit

def hollowaylaw9_Light_sh (s1 : Int) (s2 : Int) (s3 : Sl) (s4 : Sl) (s5 : Sl) (s6 : ByteArray) (s7 : ByteArray) (s8 : Int) (s9 : Int) (s10 : Int) (w : World) (K : Value → World → Prop) : Prop :=
 ∀ (b11 : Nat) (w12 : World), b11 = w.heap.size → w12 = World.alloc w (.cells #[.int .i64 s1, .int .i64 s2, s3.val, s4.val, s5.val, .string s6, .string s7, .int .i64 s8, .int .i64 s9, .int .i64 s10] T_api_State) →
 ∃ s13 : Sl, w12.cell? ⟨b11, 4, none⟩ = some (s13.val) ∧
 brB (decide ((s13.len : Int) ≤ (700 : Int)))
 (∃ t14 : ByteArray, w12.cell? ⟨b11, 6, none⟩ = some (.string t14) ∧
 brB (decide ((t14.size : Int) ≤ (300 : Int)))
 (∃ n15 n16 : Int, ∃ s17 s18 s19 : Sl, ∃ t20 t21 : ByteArray, ∃ n22 n23 n24 : Int, w12.cell? ⟨b11, 0, none⟩ = some (.int .i64 n15) ∧ w12.cell? ⟨b11, 1, none⟩ = some (.int .i64 n16) ∧ w12.cell? ⟨b11, 2, none⟩ = some (s17.val) ∧ w12.cell? ⟨b11, 3, none⟩ = some (s18.val) ∧ w12.cell? ⟨b11, 4, none⟩ = some (s19.val) ∧ w12.cell? ⟨b11, 5, none⟩ = some (.string t20) ∧ w12.cell? ⟨b11, 6, none⟩ = some (.string t21) ∧ w12.cell? ⟨b11, 7, none⟩ = some (.int .i64 n22) ∧ w12.cell? ⟨b11, 8, none⟩ = some (.int .i64 n23) ∧ w12.cell? ⟨b11, 9, none⟩ = some (.int .i64 n24) ∧
 Calls Tryz.prog fn_hollowayref9_Right #[.agg #[.int .i64 n15, .int .i64 n16, s17.val, s18.val, s19.val, .string t20, .string t21, .int .i64 n22, .int .i64 n23, .int .i64 n24]] w12 fun e25 w26 => ∃ b27 : Bool, e25 = .returned (.bool b27) ∧
 K (.bool b27) w26)
 (K (.bool false) w12))
 (K (.bool false) w12)
def hollowaylaw9_Light_an : An := ⟨[], [], []⟩
theorem hollowaylaw9_Light_lift {s1 : Int} {s2 : Int} {s3 : Sl} {s4 : Sl} {s5 : Sl} {s6 : ByteArray} {s7 : ByteArray} {s8 : Int} {s9 : Int} {s10 : Int} {w : World} {K : Value → World → Prop} (h : hollowaylaw9_Light_sh s1 s2 s3 s4 s5 s6 s7 s8 s9 s10 w K) : Calls Tryz.prog fn_hollowaylaw9_Light #[.agg #[.int .i64 s1, .int .i64 s2, s3.val, s4.val, s5.val, .string s6, .string s7, .int .i64 s8, .int .i64 s9, .int .i64 s10]] w fun e w' => ∃ v, e = .returned v ∧ K v w' :=
   lift_calls (A := hollowaylaw9_Light_an) (c := bodyOf Tryz.f23) (args := [.agg #[.int .i64 s1, .int .i64 s2, s3.val, s4.val, s5.val, .string s6, .string s7, .int .i64 s8, .int .i64 s9, .int .i64 s10]]) orc orc_wide Tryz.func23 (by kernel_rfl) (by kernel_rfl) (Eq.mp (by kernel_rfl : hollowaylaw9_Light_sh s1 s2 s3 s4 s5 s6 s7 s8 s9 s10 w K = wpc orc Tryz.f23.ntmps hollowaylaw9_Light_an (bodyOf Tryz.f23) (argl 0 [.agg #[.int .i64 s1, .int .i64 s2, s3.val, s4.val, s5.val, .string s6, .string s7, .int .i64 s8, .int .i64 s9, .int .i64 s10]]) w (retQ orc Tryz.f23.results.toList K)) h)

end Go.Proofs.YtkjpmkopnkkbmaaGreatDoor
