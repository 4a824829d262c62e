/- The walk of CellTells. -/
import Derived.Test.YtaikagkakajdfaaCellAlive
import Derived.Test.YtaikagkakajdfaaCellBits
import Derived.BigGuardPart
namespace Go.Proofs.Ytaikagkakajdfaa
open Go.RowKit

theorem rone_one (op a : Int) : Cn.rone op a = Cn.one op a := by
  unfold Cn.rone Cn.one; rw [Cn.not_law]
theorem floor_same {a b : Int} (ha : Cn.In a) (h0 : b ≠ 0) : Cn.rquo a b = Cn.quo a b ∧ Cn.rrem a b = Cn.rem a b := by
  have h1 := Cn.rtwo_two (op := 14) (b := b) ha
  have h2 := Cn.rtwo_two (op := 15) (b := b) ha
  simp [Cn.rtwo, Cn.two, h0] at h1 h2
  exact ⟨h1, h2⟩

set_option maxHeartbeats 2000000 in
theorem cellTells_walk (op a b : Int) (ha : Cn.In a) (w : World) :
    Calls Try.prog 12 #[.int .i64 op, .int .i64 a, .int .i64 b] w fun e w' => e = .returned (.bool true) ∧ Grown w w' := by
  have h2 := Lib.hid (Cn.rtwo_two (op := op) (b := b) ha)
  by_cases h0 : b = 0
  · subst h0
    go_enter Try.func12, Try.ntmps12
    go_wp2_with (first | (go_at_call 21; refine (alive1_any _).mono ?_; rintro e w' ⟨rfl, n, rfl⟩))
    refine (two_any _ _ _ _).mono ?_; rintro e w' ⟨rfl, n1, rfl⟩
    go_wp2_with fail
    refine (rtwo_any _ _ _ _).mono ?_; rintro e w' ⟨rfl, rfl⟩; rw [h2.out]
    go_wp2_with fail
    refine (one_any _ _ _).mono ?_; rintro e w' ⟨rfl, rfl⟩
    go_wp2_with fail
    refine (rone_any _ _ _).mono ?_; rintro e w' ⟨rfl, rfl⟩; rw [rone_one]
    go_wp2_with fail
    refine (floor_any _ _ _).mono ?_; rintro e w' ⟨rfl, n4, rfl⟩
    rw [show Cn.quo a 0 = 0 from rfl, show Cn.rem a 0 = 0 from rfl]
    generalize Cn.two op a 0 = T
    generalize Cn.isTwo op 0 = TI
    generalize Cn.one op a = O
    generalize Cn.isOne op = OI
    clear h2
    go_wp2
    go_ret
    exact ⟨rfl, (Qt.drewN _ _).grown⟩
  · have e0 : (b == 0) = false := beq_eq_false_iff_ne.2 h0
    have h3 := Lib.hid (floor_same ha h0)
    have h4 := Lib.hid h0
    clear h0
    go_enter Try.func12, Try.ntmps12
    go_wp2_with (first | (go_at_call 21; refine (alive1_any _).mono ?_; rintro e w' ⟨rfl, n, rfl⟩))
    refine (two_any _ _ _ _).mono ?_; rintro e w' ⟨rfl, n1, rfl⟩
    go_wp2_with fail
    refine (rtwo_any _ _ _ _).mono ?_; rintro e w' ⟨rfl, rfl⟩; rw [h2.out]
    go_wp2_with fail
    refine (one_any _ _ _).mono ?_; rintro e w' ⟨rfl, rfl⟩
    go_wp2_with fail
    refine (rone_any _ _ _).mono ?_; rintro e w' ⟨rfl, rfl⟩; rw [rone_one]
    go_wp2_with fail
    refine (floor_any _ _ _).mono ?_; rintro e w' ⟨rfl, n4, rfl⟩
    rw [show (b != 0) = true from by simpa using h4.out]
    go_wp2_with fail
    refine (rfloor_any _ _ h4.out _).mono ?_; rintro e w' ⟨rfl, rfl⟩
    rw [h3.out.1, h3.out.2]
    generalize Cn.two op a b = T
    generalize Cn.isTwo op b = TI
    generalize Cn.one op a = O
    generalize Cn.isOne op = OI
    generalize Cn.quo a b = QQ
    generalize Cn.rem a b = RR
    clear h2 h3 h4
    go_wp2_with (first | (go_at_call 24; refine (crosses_any _ _ _).mono ?_; rintro e w' ⟨rfl, rfl⟩) | (go_at_call 37; refine (rcrosses_any _ _ _).mono ?_; rintro e w' ⟨rfl, rfl⟩))
    go_ret
    exact ⟨rfl, (Qt.drewN _ _).grown⟩
end Go.Proofs.Ytaikagkakajdfaa
