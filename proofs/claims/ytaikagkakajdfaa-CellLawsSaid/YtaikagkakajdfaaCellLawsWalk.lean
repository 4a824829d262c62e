/- The walk of CellLaws. -/
import Derived.Test.YtaikagkakajdfaaCellAlive
import Derived.Test.YtaikagkakajdfaaCellBits
import Derived.BigGuardPart
namespace Go.Proofs.Ytaikagkakajdfaa
open Go.RowKit

set_option maxRecDepth 100000 in
set_option maxHeartbeats 2000000 in
theorem cellLaws_case (a b n AND OR XOR NOT NEG SUM BOTH LEFT BACK LESS EQ MORE : Int) (w : World)
    (e17 : Hid (Cn.two 17 a b = AND)) (e18 : Hid (Cn.two 18 a b = OR)) (e19 : Hid (Cn.two 19 a b = XOR)) (e20 : Hid (Cn.one 20 a = NOT)) (e16 : Hid (Cn.one 16 a = NEG))
    (es : Hid (Cn.two 11 AND OR = SUM)) (eb : Hid (Cn.two 11 a b = BOTH)) (el : Hid (Cn.two 21 a n = LEFT)) (er : Hid (Cn.two 22 LEFT n = BACK)) (e1 : Hid (Cn.two 24 a b = LESS)) (e2 : Hid (Cn.two 23 a b = EQ)) (e3 : Hid (Cn.two 24 b a = MORE))
    (f1 : (SUM != BOTH) = false) (f2 : (XOR != wrap64 (OR - AND)) = false) (f3 : (NOT != wrap64 (-1 - a)) = false) (f4 : (NEG != wrap64 (-a)) = false) (f5 : (wrap64 (wrap64 (LESS + EQ) + MORE) != -1) = false)
    (hn : (0 ≤ n ∧ n ≤ 63 ∧ (LEFT == wrap64 (IntKind.u64.wrap (IntKind.u64.wrap a * 2 ^ n.toNat))) = true ∧ (IntKind.u64.wrap BACK == IntKind.u64.wrap (IntKind.u64.wrap a * 2 ^ n.toNat) / 2 ^ n.toNat) = true) ∨ (n < 0 ∧ (LEFT == 0) = true ∧ (BACK == 0) = true) ∨ (63 < n ∧ (LEFT == 0) = true ∧ (BACK == 0) = true)) :
    Calls Try.prog 10 #[.int .i64 a, .int .i64 b, .int .i64 n] w fun e w' => e = .returned (.bool true) ∧ Grown w w' := by
  have HN := Lib.hid hn
  clear hn
  go_enter Try.func10, Try.ntmps10
  go_wp2_with (first | (go_at_call 21; refine (alive1_any _).mono ?_; rintro e w' ⟨rfl, n0, rfl⟩))
  refine (two_any _ _ _ _).mono ?_; rintro e w' ⟨rfl, n1, rfl⟩; rw [e17.out]
  go_wp2_with fail
  refine (two_any _ _ _ _).mono ?_; rintro e w' ⟨rfl, n2, rfl⟩; rw [e18.out]
  go_wp2_with fail
  refine (two_any _ _ _ _).mono ?_; rintro e w' ⟨rfl, n3, rfl⟩; rw [e19.out]
  go_wp2_with fail
  refine (one_any _ _ _).mono ?_; rintro e w' ⟨rfl, rfl⟩; rw [e20.out]
  go_wp2_with fail
  refine (one_any _ _ _).mono ?_; rintro e w' ⟨rfl, rfl⟩; rw [e16.out]
  go_wp2_with fail
  refine (two_any _ _ _ _).mono ?_; rintro e w' ⟨rfl, n4, rfl⟩; rw [es.out]
  go_wp2_with fail
  refine (two_any _ _ _ _).mono ?_; rintro e w' ⟨rfl, n5, rfl⟩; rw [eb.out]
  go_wp2_with fail
  refine (two_any _ _ _ _).mono ?_; rintro e w' ⟨rfl, n6, rfl⟩; rw [el.out]
  go_wp2_with fail
  refine (two_any _ _ _ _).mono ?_; rintro e w' ⟨rfl, n7, rfl⟩; rw [er.out]
  go_wp2_with fail
  refine (two_any _ _ _ _).mono ?_; rintro e w' ⟨rfl, n8, rfl⟩; rw [e1.out]
  go_wp2_with fail
  refine (two_any _ _ _ _).mono ?_; rintro e w' ⟨rfl, n9, rfl⟩; rw [e2.out]
  go_wp2_with fail
  refine (two_any _ _ _ _).mono ?_; rintro e w' ⟨rfl, n10, rfl⟩; rw [e3.out]
  go_wp2_with fail
  refine (flag_any _ _).mono ?_; rintro e w' ⟨rfl, rfl⟩; rw [show Cn.flag false = 0 from rfl]
  clear e17 e18 e19 e20 e16 es eb e1 e2 e3 el er
  have hn := HN.out
  clear HN
  rcases hn with ⟨g1, g2, g3, g4⟩ | ⟨g1, g3, g4⟩ | ⟨g1, g3, g4⟩
  all_goals
    go_wp2
    go_ret
    exact ⟨rfl, (Qt.drewN _ _).grown⟩

theorem flag_sum (a b : Int) : (wrap64 (wrap64 (Cn.flag (decide (a < b)) + Cn.flag (a == b)) + Cn.flag (decide (b < a))) != -1) = false := by
  rcases Int.lt_trichotomy a b with h | h | h
  · rw [show decide (a < b) = true from by simpa using h, show (a == b) = false from by simp; omega, show decide (b < a) = false from by simp; omega]; decide +kernel
  · subst h; rw [show decide (a < a) = false from by simp, show (a == a) = true from by simp]; decide +kernel
  · rw [show decide (a < b) = false from by simp; omega, show (a == b) = false from by simp; omega, show decide (b < a) = true from by simpa using h]; decide +kernel

theorem cellLaws_walk (a b n : Int) (w : World) :
    Calls Try.prog 10 #[.int .i64 a, .int .i64 b, .int .i64 n] w fun e w' => e = .returned (.bool true) ∧ Grown w w' := by
  refine cellLaws_case a b n _ _ _ _ _ _ _ _ _ _ _ _ w (Lib.hid rfl) (Lib.hid rfl) (Lib.hid rfl) (Lib.hid rfl) (Lib.hid rfl) (Lib.hid rfl) (Lib.hid rfl) (Lib.hid rfl) (Lib.hid rfl) (Lib.hid rfl) (Lib.hid rfl) (Lib.hid rfl) ?_ ?_ ?_ ?_ (flag_sum a b) ?_
  · rw [bne_eq_false_iff_eq]; exact Cn.sum_law a b
  · rw [bne_eq_false_iff_eq]; exact Cn.xor_law a b
  · rw [bne_eq_false_iff_eq]; exact Cn.not_law
  · rw [bne_eq_false_iff_eq]; rfl
  · by_cases h : 0 ≤ n ∧ n ≤ 63
    · refine Or.inl ⟨h.1, h.2, ?_, ?_⟩
      · rw [Cn.shl_law h, beq_iff_eq, Cn.w_u, IntKind.wrap_u64]
        have := Cn.w_mul (a % 18446744073709551616) (2 ^ n.toNat)
        have e : wrap64 (a % 18446744073709551616) = wrap64 a := by unfold wrap64; omega
        rw [← this, e, Cn.w_mul]
      · rw [Cn.shr_law h, Cn.shl_law h, beq_iff_eq, Cn.u_w, Cn.u_w, Cn.u_div]
        congr 1
        rw [← Cn.u_w (a * 2 ^ n.toNat), ← Cn.w_mul, ← Cn.w_u a, Cn.w_mul, Cn.u_w]
    · have z1 : Cn.two 21 a n = 0 := by
        show Cn.shift 21 a n = 0
        unfold Cn.shift; rw [if_pos (by omega)]
      have z2 : Cn.two 22 (Cn.two 21 a n) n = 0 := by
        show Cn.shift 22 _ n = 0
        unfold Cn.shift; rw [if_pos (by omega)]
      rw [z2, z1]
      by_cases h2 : n < 0
      · exact Or.inr (Or.inl ⟨h2, rfl, rfl⟩)
      · exact Or.inr (Or.inr ⟨by omega, rfl, rfl⟩)
end Go.Proofs.Ytaikagkakajdfaa
