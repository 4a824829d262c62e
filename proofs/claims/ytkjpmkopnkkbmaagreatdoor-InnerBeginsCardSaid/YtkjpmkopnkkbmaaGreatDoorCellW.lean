/- The contracts of the functions of the package cell. -/
import Derived.Test.YtkjpmkopnkkbmaaGreatDoorRows
import Derived.Test.YtkjpmkopnkkbmaaGreatDoorBase
import Derived.Test.YtkjpmkopnkkbmaaGreatDoorCellNums
import Derived.WalkKit
import Derived.WalkSpells
import Derived.WalkLawsBesides
import Derived.Handy
import Derived.Deep.Light
import Derived.Deep.QuietTactic
import Derived.BigQuiet
namespace Go.Proofs.YtkjpmkopnkkbmaaGreatDoor
open Go.RowKit

set_option maxHeartbeats 400000 in
theorem flag_any (b : Bool) (w : World) :
    Calls Tryz.prog 168 #[.bool b] w fun e w' => e = .returned (.int .i64 (Cn.flag b)) ∧ w = w' := by
  cases b
  all_goals
    go_enter Tryz.func168, Tryz.ntmps168
    go_wp2
    go_ret
    exact ⟨rfl, rfl⟩

set_option maxHeartbeats 400000 in
theorem floor_any (a b : Int) (w : World) :
    Calls Tryz.prog 169 #[.int .i64 a, .int .i64 b] w fun e w' => e = .returned (.tuple #[.int .i64 (Cn.quo a b), .int .i64 (Cn.rem a b), .bool (b != 0)]) ∧ Qt w w' := by
  by_cases h0 : b = 0
  · subst h0
    go_enter Tryz.func169, Tryz.ntmps169
    go_wp2
    go_ret3
    exact ⟨rfl, Qt.refl _⟩
  by_cases h1 : b = -1
  · subst h1
    go_enter Tryz.func169, Tryz.ntmps169
    go_wp2
    go_ret3
    exact ⟨rfl, Qt.refl _⟩
  have e0 : (b == 0) = false := beq_eq_false_iff_ne.2 h0
  have e1 : (b == -1) = false := beq_eq_false_iff_ne.2 h1
  go_enter Tryz.func169, Tryz.ntmps169
  go_wp2
  go_quiet (fail)
  go_wp2
  all_goals
    go_ret3
    refine ⟨ret_iib ?_ ?_ ?_, Qt.drewN _ _⟩ <;> simp_all [Cn.quo, Cn.rem, Cn.odd]

set_option maxHeartbeats 400000 in
theorem shift_any (op a n : Int) (w : World) :
    Calls Tryz.prog 170 #[.int .i64 op, .int .i64 a, .int .i64 n] w fun e w' => e = .returned (.int .i64 (Cn.shift op a n)) ∧ w = w' := by
  go_enter Tryz.func170, Tryz.ntmps170
  go_wp2
  all_goals
    go_ret
    refine ⟨ret_i ?_, rfl⟩
  all_goals simp_all [Cn.shift]
  all_goals omega

set_option maxHeartbeats 400000 in
theorem compare_any (op a b : Int) (w : World) :
    Calls Tryz.prog 171 #[.int .i64 op, .int .i64 a, .int .i64 b] w fun e w' => e = .returned (.int .i64 (Cn.cmp op a b)) ∧ w = w' := by
  go_enter Tryz.func171, Tryz.ntmps171
  go_wp2_with (go_at_call 168; refine (flag_any _ _).mono ?_; rintro e w' ⟨rfl, rfl⟩)
  all_goals
    go_ret
    refine ⟨ret_i ?_, rfl⟩
  all_goals simp_all [Cn.cmp]

set_option maxHeartbeats 400000 in
theorem one_any (op a : Int) (w : World) :
    Calls Tryz.prog 159 #[.int .i64 op, .int .i64 a] w fun e w' => e = .returned (.tuple #[.int .i64 (Cn.one op a), .bool (Cn.isOne op)]) ∧ w = w' := by
  go_enter Tryz.func159, Tryz.ntmps159
  go_wp2_with (go_at_call 168; refine (flag_any _ _).mono ?_; rintro e w' ⟨rfl, rfl⟩)
  all_goals
    go_ret2
    refine ⟨ret_ib ?_ ?_, rfl⟩
  all_goals simp_all [Cn.one, Cn.isOne]

set_option maxHeartbeats 1000000 in
theorem two_any (op a b : Int) (w : World) :
    Calls Tryz.prog 160 #[.int .i64 op, .int .i64 a, .int .i64 b] w fun e w' => e = .returned (.tuple #[.int .i64 (Cn.two op a b), .bool (Cn.isTwo op b)]) ∧ Qt w w' := by
  go_enter Tryz.func160, Tryz.ntmps160
  go_wp2_with (first | (go_at_call 169; refine (floor_any _ _ _).mono ?_; rintro e w' ⟨rfl, n, rfl⟩) | (go_at_call 170; refine (shift_any _ _ _ _).mono ?_; rintro e w' ⟨rfl, rfl⟩) | (go_at_call 171; refine (compare_any _ _ _ _).mono ?_; rintro e w' ⟨rfl, rfl⟩))
  all_goals
    go_ret2
    refine ⟨ret_ib ?_ ?_, (by first | exact Qt.refl _ | exact Qt.drewN _ _)⟩
  all_goals go_light
  all_goals simp_all [Cn.two, Cn.isTwo]
  all_goals omega
end Go.Proofs.YtkjpmkopnkkbmaaGreatDoor
