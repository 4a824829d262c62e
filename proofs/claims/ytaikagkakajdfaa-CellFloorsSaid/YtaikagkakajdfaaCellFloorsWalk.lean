/- The walk of CellFloors. -/
import Derived.Test.YtaikagkakajdfaaCellAlive
namespace Go.Proofs.Ytaikagkakajdfaa
open Go.RowKit

set_option maxHeartbeats 1000000 in
theorem cellFloors_walk (a b : Int) (ha : Cn.In a) (hb : Cn.In b) (w : World) :
    Calls Try.prog 6 #[.int .i64 a, .int .i64 b] w fun e w' => e = .returned (.bool true) ∧ Grown w w' := by
  by_cases h0 : b = 0
  · subst h0
    go_enter Try.func6, Try.ntmps6
    go_wp2_with (go_at_call 21; refine (alive1_any _).mono ?_; rintro e w' ⟨rfl, n, rfl⟩)
    go_ret
    exact ⟨rfl, (Qt.drewN _ _).grown⟩
  · have e0 : (b == 0) = false := beq_eq_false_iff_ne.2 h0
    have hback : (wrap64 (wrap64 (Cn.quo a b * b) + Cn.rem a b) == a) = true := beq_iff_eq.2 (Cn.floor_back ha hb h0)
    have hrest := Cn.floor_rest ha hb h0
    have hfl := floor_any a b
    have e1 : (b != 0) = true := by simpa using h0
    rw [e1] at hfl
    clear h0 e1
    generalize Cn.quo a b = q at *
    generalize Cn.rem a b = r at *
    have HF := Lib.hid hfl
    clear hfl
    have hcases : (r = 0 ∧ 0 < b) ∨ (r = 0 ∧ b < 0) ∨ (0 < r ∧ r < b ∧ 0 < b) ∨ (r < 0 ∧ b < r ∧ b < 0) := by omega
    clear hrest ha hb
    rcases hcases with ⟨rfl, h1⟩ | ⟨rfl, h1⟩ | ⟨h1, h2, h3⟩ | ⟨h1, h2, h3⟩
    all_goals
      try rw [Int.add_zero] at hback
      go_enter Try.func6, Try.ntmps6
      go_wp2_with (go_at_call 21; refine (alive1_any _).mono ?_; rintro e w' ⟨rfl, n, rfl⟩)
      refine (HF.out _).mono ?_
      rintro e w' ⟨rfl, m, rfl⟩
      go_wp2
      go_ret
      exact ⟨rfl, (Qt.drewN _ _).grown⟩
end Go.Proofs.Ytaikagkakajdfaa
