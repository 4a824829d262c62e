/- The walks of CellShifts, CellLoops, CellLaws and CellOrder. -/
import Derived.Test.YtaikagkakajdfaaCellAlive
import Derived.Test.YtaikagkakajdfaaCellBits
namespace Go.Proofs.Ytaikagkakajdfaa
open Go.RowKit

set_option maxHeartbeats 1000000 in
theorem cellShifts_walk (a m n : Int) (w : World) :
    Calls Try.prog 7 #[.int .i64 a, .int .i64 m, .int .i64 n] w fun e w' => e = .returned (.bool true) ∧ Grown w w' := by
  have hcases : (0 ≤ m ∧ 0 ≤ n ∧ m + n ≤ 63) ∨ (m < 0) ∨ (0 ≤ m ∧ n < 0) ∨ (0 ≤ m ∧ 0 ≤ n ∧ 63 < m) ∨ (0 ≤ m ∧ m ≤ 63 ∧ 0 ≤ n ∧ 63 < n) ∨ (0 ≤ m ∧ m ≤ 63 ∧ 0 ≤ n ∧ n ≤ 63 ∧ 63 < m + n) := by omega
  rcases hcases with ⟨h1, h2, h3⟩ | h1 | ⟨h1, h2⟩ | ⟨h1, h2, h3⟩ | ⟨h1, h2, h3, h4⟩ | ⟨h1, h2, h3, h4, h5⟩
  · have e1 : (Cn.two 21 (Cn.two 21 a m) n == Cn.two 21 a (m + n)) = true := beq_iff_eq.2 (Cn.shl_parts h1 h2 h3)
    have e2 : (Cn.two 22 (Cn.two 22 a m) n == Cn.two 22 a (m + n)) = true := beq_iff_eq.2 (Cn.shr_parts h1 h2 h3)
    go_enter Try.func7, Try.ntmps7
    go_wp2_with (first | (go_at_call 21; refine (alive1_any _).mono ?_; rintro e w' ⟨rfl, n, rfl⟩) | (go_at_call 23; refine (two_any _ _ _ _).mono ?_; rintro e w' ⟨rfl, n, rfl⟩))
    go_ret
    exact ⟨rfl, (Qt.drewN _ _).grown⟩
  all_goals
    go_enter Try.func7, Try.ntmps7
    go_wp2_with (go_at_call 21; refine (alive1_any _).mono ?_; rintro e w' ⟨rfl, n, rfl⟩)
    all_goals
      go_ret
      exact ⟨rfl, (Qt.drewN _ _).grown⟩

set_option maxHeartbeats 1000000 in
theorem cellLoops_walk (i l : Int) (hi : Cn.In i) (hl : Cn.In l) (w : World) :
    Calls Try.prog 8 #[.int .i64 i, .int .i64 l] w fun e w' => e = .returned (.bool true) ∧ Grown w w' := by
  have e1 := Lib.hid (Cn.crosses_one hi hl)
  have e2 := Lib.hid (Cn.crosses_none (wrap64 (i - l)) (Cn.in_w _))
  go_enter Try.func8, Try.ntmps8
  go_wp2_with (first | (go_at_call 21; refine (alive1_any _).mono ?_; rintro e w' ⟨rfl, n, rfl⟩))
  refine (crosses_any _ _ _).mono ?_
  rintro e w' ⟨rfl, rfl⟩
  rw [e1.out]
  go_wp2_with fail
  refine (crosses_any _ _ _).mono ?_
  rintro e w' ⟨rfl, rfl⟩
  rw [e2.out]
  go_wp2
  go_ret
  exact ⟨rfl, (Qt.drewN _ _).grown⟩
end Go.Proofs.Ytaikagkakajdfaa
