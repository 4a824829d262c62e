/- The first call of the statements of chapter 1: it is true. -/
import Derived.Test.YtaikagkakajdfaaCellRefWalks
import Derived.Test.YtaikagkakajdfaaCellLaws
namespace Go.Proofs.Ytaikagkakajdfaa
open Go.RowKit

theorem in_of {a : Int} (h : (Lit.int .i64 a).wf = true) : Cn.In a := by
  simp [Lit.wf, IntKind.min, IntKind.max, IntKind.signed, IntKind.bits] at h
  exact h

set_option maxHeartbeats 400000 in
theorem alive1_any (w : World) : Calls Try.prog 21 #[] w fun e w' => e = .returned (.bool true) ∧ Qt w w' := by
  go_enter Try.func21, Try.ntmps21
  go_wp2_with fail
  refine (floor_any _ _ _).mono ?_
  rintro e w' ⟨rfl, n, rfl⟩
  rw [show Cn.quo (-7) 2 = -4 from by decide +kernel, show Cn.rem (-7) 2 = 1 from by decide +kernel]
  go_wp2_with fail
  refine (two_any _ _ _ _).mono ?_
  rintro e w' ⟨rfl, m, rfl⟩
  rw [show Cn.two 11 2 3 = 5 from by decide +kernel, show Cn.isTwo 11 3 = true from rfl]
  go_wp2_with (go_at_call 33; refine (flag_any _ _).mono ?_; rintro e w' ⟨rfl, rfl⟩)
  go_ret
  exact ⟨rfl, Qt.drewN _ _⟩
end Go.Proofs.Ytaikagkakajdfaa
