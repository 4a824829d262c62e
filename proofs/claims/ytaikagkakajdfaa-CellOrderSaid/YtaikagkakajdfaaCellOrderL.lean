/- CellOrder: less, less without a sign, the lesser and the greater one tell the same order. The walk, over the lifted text. -/
import Derived.Test.YtaikagkakajdfaaCellAlive
import Derived.Test.YtaikagkakajdfaaCellWalks
import Derived.Test.YtaikagkakajdfaaShs
namespace Go.Proofs.Ytaikagkakajdfaa
open Go.RowKit

theorem u_less {a b : Int} (ha : Cn.In a) (hb : Cn.In b) : (IntKind.u64.wrap a < IntKind.u64.wrap b) ↔ ((a < b ∧ ¬ (a < 0 ∧ 0 ≤ b)) ∨ (b < 0 ∧ 0 ≤ a)) := by
  rw [IntKind.wrap_u64, IntKind.wrap_u64]; unfold Cn.In at *; omega
theorem order_tests {a b lo hi l u z n U V : Int} (hlo : lo = min a b) (hhi : hi = max a b) (hl : l = if a < b then -1 else 0) (hu : u = if U < V then -1 else 0) (hz : z = if a = 0 then -1 else 0) (hn : n = if a < 0 then -1 else 0)
    (hUV : (U < V) ↔ ((a < b ∧ ¬ (a < 0 ∧ 0 ≤ b)) ∨ (b < 0 ∧ 0 ≤ a))) (w : World) (K : Value → World → Prop) (hK : K (.bool true) w) :
    brB (decide (lo ≤ hi)) (brB (lo == a) (brB (hi == b) (brB ((l == (-1 : Int)) == (decide (a < b))) (brB ((u == (-1 : Int)) == (decide (U < V))) (brB ((z == (-1 : Int)) == (a == (0 : Int))) (brB ((n == (-1 : Int)) == (decide (a < (0 : Int))))
      (hollowaylaw1_CellOrder_j1 ((!((decide (a < (0 : Int))) == (decide (b < (0 : Int))))) == (l != u)) w K) (hollowaylaw1_CellOrder_j1 false w K)) (hollowaylaw1_CellOrder_j1 false w K)) (hollowaylaw1_CellOrder_j1 false w K)) (hollowaylaw1_CellOrder_j1 false w K))
      (brB (lo == b) (brB (hi == a) (brB ((l == (-1 : Int)) == (decide (a < b))) (brB ((u == (-1 : Int)) == (decide (U < V))) (brB ((z == (-1 : Int)) == (a == (0 : Int))) (brB ((n == (-1 : Int)) == (decide (a < (0 : Int))))
      (hollowaylaw1_CellOrder_j1 ((!((decide (a < (0 : Int))) == (decide (b < (0 : Int))))) == (l != u)) w K) (hollowaylaw1_CellOrder_j1 false w K)) (hollowaylaw1_CellOrder_j1 false w K)) (hollowaylaw1_CellOrder_j1 false w K)) (hollowaylaw1_CellOrder_j1 false w K)) (hollowaylaw1_CellOrder_j1 false w K)) (hollowaylaw1_CellOrder_j1 false w K)))
      (brB (lo == b) (brB (hi == a) (brB ((l == (-1 : Int)) == (decide (a < b))) (brB ((u == (-1 : Int)) == (decide (U < V))) (brB ((z == (-1 : Int)) == (a == (0 : Int))) (brB ((n == (-1 : Int)) == (decide (a < (0 : Int))))
      (hollowaylaw1_CellOrder_j1 ((!((decide (a < (0 : Int))) == (decide (b < (0 : Int))))) == (l != u)) w K) (hollowaylaw1_CellOrder_j1 false w K)) (hollowaylaw1_CellOrder_j1 false w K)) (hollowaylaw1_CellOrder_j1 false w K)) (hollowaylaw1_CellOrder_j1 false w K)) (hollowaylaw1_CellOrder_j1 false w K)) (hollowaylaw1_CellOrder_j1 false w K)))
      (hollowaylaw1_CellOrder_j1 false w K) := by
  have e1 : decide (lo ≤ hi) = true := by simp; omega
  have e4 : ((l == (-1 : Int)) == (decide (a < b))) = true := by rw [hl]; by_cases h : a < b <;> simp [h]
  have e5 : ((u == (-1 : Int)) == (decide (U < V))) = true := by rw [hu]; by_cases h : U < V <;> simp [h]
  have e6 : ((z == (-1 : Int)) == (a == (0 : Int))) = true := by rw [hz]; by_cases h : a = 0 <;> simp [h]
  have e7 : ((n == (-1 : Int)) == (decide (a < (0 : Int)))) = true := by rw [hn]; by_cases h : a < 0 <;> simp [h]
  have e8 : ((!((decide (a < (0 : Int))) == (decide (b < (0 : Int))))) == (l != u)) = true := by
    rw [hl, hu]
    by_cases h1 : a < b <;> by_cases h2 : U < V <;> by_cases h3 : a < 0 <;> by_cases h4 : b < 0 <;> simp [h1, h2, h3, h4] <;> (rw [hUV] at h2; omega)
  rw [e1, e4, e5, e6, e7, e8]
  by_cases h : a ≤ b
  · have e2 : (lo == a) = true := by simp; omega
    have e3 : (hi == b) = true := by simp; omega
    rw [e2, e3]; exact hK
  · have e2 : (lo == a) = false := by simp; omega
    have e3 : (lo == b) = true := by simp; omega
    have e9 : (hi == a) = true := by simp; omega
    rw [e2, e3, e9]; exact hK

theorem cellOrder_walk (a b : Int) (ha : Cn.In a) (hb : Cn.In b) (w : World) :
    Calls Try.prog 11 #[.int .i64 a, .int .i64 b] w fun e w' => e = .returned (.bool true) ∧ Grown w w' := by
  refine (hollowaylaw1_CellOrder_lift (K := fun v w' => v = .bool true ∧ Grown w w') ?_).mono (by rintro e w' ⟨v, rfl, rfl, h⟩; exact ⟨rfl, h⟩)
  unfold hollowaylaw1_CellOrder_sh
  refine (alive1_any w).mono ?_
  rintro e w1 ⟨rfl, q1⟩
  refine ⟨_, rfl, ?_⟩
  refine brB_f ?_
  refine (two_any _ _ _ _).mono ?_; rintro e w2 ⟨rfl, q2⟩; refine ⟨_, _, rfl, ?_⟩
  refine (two_any _ _ _ _).mono ?_; rintro e w3 ⟨rfl, q3⟩; refine ⟨_, _, rfl, ?_⟩
  refine (two_any _ _ _ _).mono ?_; rintro e w4 ⟨rfl, q4⟩; refine ⟨_, _, rfl, ?_⟩
  refine (two_any _ _ _ _).mono ?_; rintro e w5 ⟨rfl, q5⟩; refine ⟨_, _, rfl, ?_⟩
  refine (one_any _ _ _).mono ?_; rintro e w6 ⟨rfl, rfl⟩; refine ⟨_, _, rfl, ?_⟩
  refine (one_any _ _ _).mono ?_; rintro e w7 ⟨rfl, rfl⟩; refine ⟨_, _, rfl, ?_⟩
  refine order_tests (U := IntKind.u64.wrap a) (V := IntKind.u64.wrap b) rfl rfl ?_ ?_ ?_ ?_ (u_less ha hb) _ _ ⟨rfl, (((((q1.trans q2).trans q3).trans q4).trans q5)).grown⟩
  · show Cn.flag (decide (a < b)) = _; simp [Cn.flag]
  · show Cn.flag (decide (IntKind.u64.wrap a < IntKind.u64.wrap b)) = _; simp [Cn.flag]
  · show Cn.flag (a == 0) = _; simp [Cn.flag]
  · show Cn.flag (decide (a < 0)) = _; simp [Cn.flag]
end Go.Proofs.Ytaikagkakajdfaa
