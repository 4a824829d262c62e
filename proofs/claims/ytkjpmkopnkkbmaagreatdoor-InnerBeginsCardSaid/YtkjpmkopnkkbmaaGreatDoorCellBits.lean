/- Numbers of 64 bits, bit by bit: the plain laws that the statements of chapter 1 ask. No program is in sight here. -/
import Derived.Test.YtkjpmkopnkkbmaaGreatDoorCellLaws
namespace Go.Proofs.YtkjpmkopnkkbmaaGreatDoor
open Go.RowKit
namespace Cn

def B (a : Int) : BitVec 64 := BitVec.ofInt 64 a
theorem wrap_toNat (r : BitVec 64) : IntKind.i64.wrap (r.toNat : Int) = r.toInt := by
  rw [IntKind.wrap_i64, BitVec.toInt_eq_toNat_cond]
  have := r.isLt
  split <;> omega
theorem bits_and (a b : Int) : bits .and .i64 a b = (B a &&& B b).toInt := wrap_toNat _
theorem bits_or (a b : Int) : bits .or .i64 a b = (B a ||| B b).toInt := wrap_toNat _
theorem bits_xor (a b : Int) : bits .xor .i64 a b = (B a ^^^ B b).toInt := wrap_toNat _
theorem B_w (a : Int) : (B a).toInt = wrap64 a := by
  unfold B
  rw [BitVec.toInt_ofInt, Int.bmod_def]; unfold wrap64; omega
theorem B_toInt (x : BitVec 64) : B x.toInt = x := BitVec.ofInt_toInt
theorem w_B {a : Int} {x : BitVec 64} (h : B a = x) : wrap64 a = x.toInt := by rw [← h, B_w]
theorem B_add (a b : Int) : B (a + b) = B a + B b := BitVec.ofInt_add a b
theorem B_neg (a : Int) : B (-a) = - B a := BitVec.ofInt_neg
theorem B_sub (a b : Int) : B (a - b) = B a - B b := by
  rw [Int.sub_eq_add_neg, B_add, B_neg, BitVec.sub_eq_add_neg]

theorem part (x y : BitVec 64) : x = (x &&& ~~~y) + (x &&& y) := by
  rw [BitVec.add_eq_or_of_and_eq_zero _ _ (by ext i; simp; grind)]
  ext i; simp; grind
theorem xor_part (x y : BitVec 64) : x ^^^ y = (x &&& ~~~y) + (y &&& ~~~x) := by
  rw [BitVec.add_eq_or_of_and_eq_zero _ _ (by ext i; simp; grind)]
  ext i; simp; grind
theorem or_part (x y : BitVec 64) : x ||| y = (x ^^^ y) + (x &&& y) := by
  rw [BitVec.add_eq_or_of_and_eq_zero _ _ (by ext i; simp; grind)]
  ext i; simp; grind
theorem and_or_sum (x y : BitVec 64) : (x &&& y) + (x ||| y) = x + y := by
  have h1 := part x y
  have h2 := part y x
  rw [or_part, xor_part]
  have h3 : y &&& x = x &&& y := BitVec.and_comm _ _
  rw [h3] at h2
  generalize x &&& y = c at *
  generalize x &&& ~~~y = p at *
  generalize y &&& ~~~x = q at *
  rw [h1, h2]
  ac_rfl
theorem sum_law (a b : Int) : wrap64 (bits .and .i64 a b + bits .or .i64 a b) = wrap64 (a + b) := by
  rw [bits_and, bits_or]
  refine (w_B ?_).trans (w_B rfl).symm
  rw [B_add, B_add, B_toInt, B_toInt, and_or_sum]
theorem xor_law (a b : Int) : bits .xor .i64 a b = wrap64 (bits .or .i64 a b - bits .and .i64 a b) := by
  rw [bits_and, bits_or, bits_xor]
  refine (w_B ?_).symm
  rw [B_sub, B_toInt, B_toInt, or_part, BitVec.add_sub_cancel]
theorem not_law {a : Int} : bits .xor .i64 (-1) a = wrap64 (-1 - a) := by
  rw [bits_xor]
  refine (w_B ?_).symm
  rw [B_sub]
  have h1 : B (-1) = BitVec.allOnes 64 := by decide
  rw [h1, BitVec.allOnes_sub_eq_not, BitVec.allOnes_xor]

theorem neg_iff (x : BitVec 64) : x.toInt < 0 ↔ x.msb = true := by
  rw [BitVec.msb_eq_toInt]; simp
theorem msb_B {a : Int} (h : In a) : (B a).msb = decide (a < 0) := by
  rw [BitVec.msb_eq_toInt, B_w, w_in h]
/-- Crosses: by signs alone. -/
theorem crosses_eq {x n : Int} (hx : In x) (hn : In n) : crosses x n = (((decide (x < 0)) ^^ (decide (wrap64 (x + n) < 0))) && ((decide (x < 0)) ^^ (decide (n < 0)))) := by
  unfold crosses
  rw [bits_and, bits_xor, bits_xor, B_toInt, B_toInt, Bool.eq_iff_iff, decide_eq_true_iff, neg_iff, BitVec.msb_and, BitVec.msb_xor, BitVec.msb_xor, msb_B hx, msb_B hn, msb_B (in_w _)]
theorem crosses_one {i l : Int} (_hi : In i) (_hl : In l) : crosses (wrap64 (i - l)) 1 = (wrap64 (i + 1) == l) := by
  rw [crosses_eq (in_w _) (by unfold In; omega), Bool.eq_iff_iff]
  unfold In at *
  have e : wrap64 (wrap64 (i - l) + 1) = wrap64 (i - l + 1) := w_add _ _
  rw [e]
  simp
  unfold wrap64
  omega
theorem crosses_none (x : Int) (h : In x) : crosses x 0 = false := by
  rw [crosses_eq h (by unfold In; omega), Int.add_zero, w_in h]; simp
theorem flag_cases (b : Bool) : flag b = -1 ∨ flag b = 0 := by cases b <;> simp [flag]
/-- Shifts, to the left and back. -/
theorem shl_law {a n : Int} (hn : 0 ≤ n ∧ n ≤ 63) : two 21 a n = wrap64 (a * 2 ^ n.toNat) := by
  have h : ¬ (n < 0 ∨ 64 ≤ n) := by omega
  simp [two, shift, h]
theorem shr_law {a n : Int} (hn : 0 ≤ n ∧ n ≤ 63) : two 22 a n = wrap64 (IntKind.u64.wrap a / 2 ^ n.toNat) := by
  have h : ¬ (n < 0 ∨ 64 ≤ n) := by omega
  simp [two, shift, h]
theorem u_w (a : Int) : IntKind.u64.wrap (wrap64 a) = IntKind.u64.wrap a := by rw [IntKind.wrap_u64, IntKind.wrap_u64]; unfold wrap64; omega
theorem w_u (a : Int) : wrap64 (IntKind.u64.wrap a) = wrap64 a := by rw [IntKind.wrap_u64]; unfold wrap64; omega
theorem w_mul (a b : Int) : wrap64 (wrap64 a * b) = wrap64 (a * b) := by
  have h : wrap64 a * b = a * b + 18446744073709551616 * (-((a + 9223372036854775808) / 18446744073709551616) * b) := by
    have : wrap64 a = a + 18446744073709551616 * (-((a + 9223372036854775808) / 18446744073709551616)) := by unfold wrap64; omega
    rw [this, Int.add_mul, Int.mul_assoc]
  rw [h]; unfold wrap64; omega
theorem u_div {a : Int} (k : Nat) : IntKind.u64.wrap (IntKind.u64.wrap a / 2 ^ k) = IntKind.u64.wrap a / 2 ^ k := by
  have h : 0 ≤ IntKind.u64.wrap a ∧ IntKind.u64.wrap a < 18446744073709551616 := by rw [IntKind.wrap_u64]; omega
  have h2 : 0 ≤ IntKind.u64.wrap a / 2 ^ k ∧ IntKind.u64.wrap a / 2 ^ k ≤ IntKind.u64.wrap a := ⟨Int.ediv_nonneg h.1 (Int.pow_nonneg (by omega)), Int.ediv_le_self _ h.1⟩
  generalize IntKind.u64.wrap a / 2 ^ k = x at *
  rw [IntKind.wrap_u64]; omega
/-- CellShifts. -/
theorem shl_parts {a m n : Int} (hm : 0 ≤ m) (hn : 0 ≤ n) (h : m + n ≤ 63) : two 21 (two 21 a m) n = two 21 a (m + n) := by
  rw [shl_law ⟨hm, by omega⟩, shl_law ⟨hn, by omega⟩, shl_law ⟨by omega, h⟩, w_mul, Int.toNat_add hm hn, Int.pow_add, Int.mul_assoc]
theorem shr_parts {a m n : Int} (hm : 0 ≤ m) (hn : 0 ≤ n) (h : m + n ≤ 63) : two 22 (two 22 a m) n = two 22 a (m + n) := by
  rw [shr_law ⟨hm, by omega⟩, shr_law ⟨hn, by omega⟩, shr_law ⟨by omega, h⟩, u_w, u_div, Int.toNat_add hm hn, Int.pow_add, Int.ediv_ediv_of_nonneg (Int.pow_nonneg (by omega))]
end Cn
end Go.Proofs.YtkjpmkopnkkbmaaGreatDoor
