/- The plain laws of the package cell: what the statements ask of the numbers. No program is in sight here. -/
import Derived.Test.YtkjpmkopnkkbmaaGreatDoorCellNums
namespace Go.Proofs.YtkjpmkopnkkbmaaGreatDoor
open Go.RowKit
namespace Cn
/-- A number of 64 bits. -/
def In (a : Int) : Prop := -9223372036854775808 ≤ a ∧ a ≤ 9223372036854775807

theorem w_in {n : Int} (h : In n) : wrap64 n = n := by unfold In at h; unfold wrap64; omega
theorem in_w (n : Int) : In (wrap64 n) := by unfold In wrap64; omega

theorem tdiv_in {a b : Int} (ha : In a) (hb0 : b ≠ 0) (hb1 : b ≠ -1) : In (a.tdiv b) := by
  unfold In at *
  have h1 : (a.tdiv b).natAbs = a.natAbs / b.natAbs := Int.natAbs_tdiv a b
  have h2 : a.natAbs / b.natAbs ≤ a.natAbs := Nat.div_le_self _ _
  by_cases hb : b = 1
  · subst hb; simp; omega
  · have h3 : a.natAbs / b.natAbs ≤ a.natAbs / 2 := Nat.div_le_div_left (by omega) (by omega)
    omega
theorem tmod_lt (a : Int) {b : Int} (hb0 : b ≠ 0) : (a.tmod b).natAbs < b.natAbs := by
  rw [Int.natAbs_tmod]; exact Nat.mod_lt _ (by omega)
theorem tmod_sign {a b : Int} : (0 ≤ a → 0 ≤ a.tmod b) ∧ (a ≤ 0 → a.tmod b ≤ 0) := by
  refine ⟨fun h => Int.tmod_nonneg b h, fun h => ?_⟩
  have := Int.tmod_nonneg (a := -a) b (by omega)
  rw [Int.neg_tmod] at this; omega
theorem split_eq (a b : Int) : a.tdiv b * b + a.tmod b = a := by
  have := Int.mul_tdiv_add_tmod a b
  rw [Int.mul_comm]; omega

theorem q_in {a b q r : Int} (ha : In a) (hb : In b) (_hb0 : b ≠ 0) (ht : In q) (hs : q * b + r = a) (ho : r ≠ 0 ∧ ¬(r < 0 ↔ b < 0)) (hm : r.natAbs < b.natAbs) : In (q - 1) := by
  unfold In at *
  refine ⟨?_, by omega⟩
  refine Classical.byContradiction fun hn => ?_
  obtain rfl : q = -9223372036854775808 := by omega
  omega

/-- Floor: the law of the quotient and the rest, where the divisor is neither 0 nor -1. -/
theorem floor_law {a b : Int} (ha : In a) (hb : In b) (hb0 : b ≠ 0) (hb1 : b ≠ -1) :
    quo a b * b + rem a b = a ∧ (b > 0 ∧ 0 ≤ rem a b ∧ rem a b < b ∨ b < 0 ∧ rem a b ≤ 0 ∧ b < rem a b) := by
  have ht := tdiv_in ha hb0 hb1
  have hs := split_eq a b
  have hm := tmod_lt a hb0
  have hg := @tmod_sign a b
  unfold quo rem
  rw [if_neg hb0, if_neg hb1, if_neg hb0, if_neg hb1, w_in ht]
  by_cases ho : odd a b
  · rw [if_pos ho, if_pos ho]
    unfold odd at ho
    rw [w_in (q_in ha hb hb0 ht hs ho hm)]
    generalize a.tdiv b = q at *
    generalize a.tmod b = r at *
    rw [w_in (n := r + b) (by unfold In at *; omega), Int.sub_mul]
    refine ⟨by omega, ?_⟩
    omega
  · rw [if_neg ho, if_neg ho]
    unfold odd at ho
    refine ⟨hs, ?_⟩
    generalize a.tdiv b = q at *
    generalize a.tmod b = r at *
    omega
theorem rr_eq {a b : Int} (ha : In a) : rr a b = a.tmod b := by
  have hs := split_eq a b
  have hm : In (a.tmod b) := by
    have hg := @tmod_sign a b
    have : (a.tmod b).natAbs ≤ a.natAbs := by rw [Int.natAbs_tmod]; exact Nat.mod_le _ _
    unfold In at *; omega
  unfold rr
  generalize a.tdiv b = q at *
  generalize a.tmod b = r at *
  unfold In at *
  have e : wrap64 (wrap64 q * b) = wrap64 (q * b) := by
    unfold wrap64
    have : (q + 9223372036854775808) % 18446744073709551616 = q + 9223372036854775808 - 18446744073709551616 * ((q + 9223372036854775808) / 18446744073709551616) := by omega
    rw [this, show (q + 9223372036854775808 - 18446744073709551616 * ((q + 9223372036854775808) / 18446744073709551616) - 9223372036854775808) * b = q * b + (18446744073709551616 * (-((q + 9223372036854775808) / 18446744073709551616) * b)) from by
      rw [show q + 9223372036854775808 - 18446744073709551616 * ((q + 9223372036854775808) / 18446744073709551616) - 9223372036854775808 = q + 18446744073709551616 * (-((q + 9223372036854775808) / 18446744073709551616)) from by omega, Int.add_mul, Int.mul_assoc]]
    omega
  rw [e]
  unfold wrap64
  omega
theorem rtwo_two {op a b : Int} (ha : In a) : rtwo op a b = two op a b := by
  have hq : b ≠ 0 → rquo a b = quo a b ∧ rrem a b = rem a b := by
    intro h0
    have hr := rr_eq (b := b) ha
    have ho : rodd a b ↔ odd a b := by unfold rodd odd; rw [hr]
    unfold rquo rrem quo rem
    rw [if_neg h0, if_neg h0]
    by_cases h1 : b = -1
    · subst h1
      have h2 : a.tmod (-1) = 0 := by simp
      have h3 : ¬ odd a (-1) := by unfold odd; rw [h2]; simp
      rw [if_pos rfl, if_pos rfl, if_neg (fun h => h3 (ho.1 h)), if_neg (fun h => h3 (ho.1 h)), hr, h2]
      simp
    · rw [if_neg h1, if_neg h1, hr]
      by_cases h3 : odd a b
      · rw [if_pos h3, if_pos h3, if_pos (ho.2 h3), if_pos (ho.2 h3)]; exact ⟨rfl, rfl⟩
      · rw [if_neg h3, if_neg h3, if_neg (fun h => h3 (ho.1 h)), if_neg (fun h => h3 (ho.1 h))]; exact ⟨rfl, rfl⟩
  have hz : quo a 0 = 0 ∧ rem a 0 = 0 := ⟨rfl, rfl⟩
  have hw : ∀ n : Int, wrap64 (IntKind.u64.wrap n) = wrap64 n := by intro n; rw [IntKind.wrap_u64]; unfold wrap64; omega
  have hsh : rshift op a b = shift op a b := by
    unfold rshift shift
    rw [hw]
    by_cases h : b < 0 ∨ 63 < b
    · have h' : b < 0 ∨ 64 ≤ b := by omega
      rw [if_pos h, if_pos h']
    · have h' : ¬ (b < 0 ∨ 64 ≤ b) := by omega
      rw [if_neg h, if_neg h']
  unfold rtwo two
  rw [hsh]
  by_cases h0 : b = 0
  · subst h0; simp [hz]
  · simp [h0, hq h0]
theorem w_add (x y : Int) : wrap64 (wrap64 x + y) = wrap64 (x + y) := by unfold wrap64; omega
theorem w_neg (x : Int) : wrap64 (wrap64 (-x) * -1) = wrap64 x := by unfold wrap64; omega
theorem w_sub (x y : Int) : wrap64 (x - wrap64 y) = wrap64 (x - y) := by unfold wrap64; omega
/-- CellFloors: the quotient times the divisor, and the rest, are the number. -/
theorem floor_back {a b : Int} (ha : In a) (hb : In b) (hb0 : b ≠ 0) : wrap64 (wrap64 (quo a b * b) + rem a b) = a := by
  by_cases h1 : b = -1
  · subst h1
    show wrap64 (wrap64 (wrap64 (-a) * -1) + 0) = a
    rw [w_neg, Int.add_zero, w_in (in_w _), w_in ha]
  · rw [w_add, (floor_law ha hb hb0 h1).1, w_in ha]
theorem floor_rest {a b : Int} (ha : In a) (hb : In b) (hb0 : b ≠ 0) : b > 0 ∧ 0 ≤ rem a b ∧ rem a b < b ∨ b < 0 ∧ rem a b ≤ 0 ∧ b < rem a b := by
  by_cases h1 : b = -1
  · subst h1
    exact Or.inr ⟨by omega, Int.le_refl _, by show (-1 : Int) < 0; omega⟩
  · exact (floor_law ha hb hb0 h1).2
end Cn
end Go.Proofs.YtkjpmkopnkkbmaaGreatDoor
