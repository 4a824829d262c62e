/- The contracts of the document's answer to the package cell (hollowayref1), and of the statements' first call. -/
import Derived.Test.YtaikagkakajdfaaCellWalks
namespace Go.Proofs.Ytaikagkakajdfaa
open Go.RowKit

set_option maxHeartbeats 400000 in
theorem rflag_any (b : Bool) (w : World) :
    Calls Try.prog 68 #[.bool b] w fun e w' => e = .returned (.int .i64 (Cn.flag b)) ∧ w = w' := by
  cases b
  all_goals
    go_enter Try.func68, Try.ntmps68
    go_wp2
    go_ret
    exact ⟨rfl, rfl⟩

set_option maxHeartbeats 400000 in
theorem rcrosses_any (x n : Int) (w : World) :
    Calls Try.prog 37 #[.int .i64 x, .int .i64 n] w fun e w' => e = .returned (.bool (Cn.crosses x n)) ∧ w = w' := by
  go_enter Try.func37, Try.ntmps37
  go_wp2
  go_ret
  exact ⟨rfl, rfl⟩

set_option maxHeartbeats 400000 in
theorem rone_any (op a : Int) (w : World) :
    Calls Try.prog 35 #[.int .i64 op, .int .i64 a] w fun e w' => e = .returned (.tuple #[.int .i64 (Cn.rone op a), .bool (Cn.isOne op)]) ∧ w = w' := by
  go_enter Try.func35, Try.ntmps35
  go_wp2_with (go_at_call 68; refine (rflag_any _ _).mono ?_; rintro e w' ⟨rfl, rfl⟩)
  all_goals
    go_ret2
    refine ⟨ret_ib ?_ ?_, rfl⟩
  all_goals simp_all [Cn.rone, Cn.isOne]

set_option maxHeartbeats 400000 in
theorem risTwo_any (op : Int) (w : World) :
    Calls Try.prog 67 #[.int .i64 op] w fun e w' => e = .returned (.bool (Cn.risTwo op)) ∧ w = w' := by
  go_enter Try.func67, Try.ntmps67
  go_wp2
  all_goals
    go_ret
    refine ⟨ret_b ?_, rfl⟩
    unfold Cn.risTwo
    rw [Bool.eq_iff_iff]
    simp
    omega

set_option maxHeartbeats 400000 in
theorem rfloor_any (a b : Int) (h0 : b ≠ 0) (w : World) :
    Calls Try.prog 36 #[.int .i64 a, .int .i64 b] w fun e w' => e = .returned (.tuple #[.int .i64 (Cn.rquo a b), .int .i64 (Cn.rrem a b)]) ∧ w = w' := by
  have e0 : (b == 0) = false := beq_eq_false_iff_ne.2 h0
  go_enter Try.func36, Try.ntmps36
  go_wp2
  all_goals
    go_ret2
    refine ⟨ret_ii ?_ ?_, rfl⟩ <;> simp_all [Cn.rquo, Cn.rrem, Cn.rodd, Cn.rr]

theorem ret_shl (a : Int) (k : Nat) : IntKind.u64.wrap (IntKind.u64.wrap (a * 2 ^ k) * 2) = IntKind.u64.wrap (a * 2 ^ (k + 1)) := by
  rw [IntKind.wrap_u64, IntKind.wrap_u64, IntKind.wrap_u64, Int.pow_succ, ← Int.mul_assoc]
  omega
theorem ret_shr (a : Int) (k : Nat) : IntKind.u64.wrap a / 2 ^ k / 2 = IntKind.u64.wrap a / 2 ^ (k + 1) := by
  rw [Int.pow_succ, Int.ediv_ediv_of_nonneg (Int.pow_nonneg (by omega))]
theorem u64_range (a : Int) : 0 ≤ IntKind.u64.wrap a ∧ IntKind.u64.wrap a ≤ 18446744073709551615 := by
  rw [IntKind.wrap_u64]; omega
theorem div_range {x : Int} (k : Nat) (h : 0 ≤ x ∧ x ≤ 18446744073709551615) : 0 ≤ x / 2 ^ k ∧ x / 2 ^ k ≤ 18446744073709551615 :=
  ⟨Int.ediv_nonneg h.1 (Int.pow_nonneg (by omega)), Int.le_trans (Int.ediv_le_self _ h.1) h.2⟩

set_option maxHeartbeats 1000000 in
theorem rtwo_left (a : Int) (n : Nat) (hn : n ≤ 63) (w : World) :
    Calls Try.prog 34 #[.int .i64 21, .int .i64 a, .int .i64 n] w fun e w' => e = .returned (.tuple #[.int .i64 (wrap64 (IntKind.u64.wrap (a * 2 ^ n))), .bool true]) ∧ w = w' := by
  go_enter Try.func34, Try.ntmps34
  go_wp2_with (first | (go_at_call 67; refine (risTwo_any _ _).mono ?_; rintro e w' ⟨rfl, rfl⟩))
  go_loop [10, 11] (fun x i => ∃ k : Nat, k ≤ n ∧ i = .int .i64 k ∧ x = .int .u64 (IntKind.u64.wrap (a * 2 ^ k))) (fun _ i => n - (intOf i).toNat)
  case atStart => exact ⟨0, Nat.zero_le _, rfl, by simp⟩
  case round =>
    obtain ⟨k, hk, rfl, rfl⟩ := hrel
    have hs := Lib.hid (ret_shl a k)
    obtain ⟨X, hX⟩ : ∃ X, X = IntKind.u64.wrap (a * 2 ^ k) := ⟨_, rfl⟩
    rw [← hX] at hs ⊢
    have HX := Lib.hid hX
    clear hX
    go_wp2
    · go_round
      case rel => exact ⟨k + 1, by omega, by go_num, congrArg _ (by rw [hs.out])⟩
      case measure => simp [intOf]; omega
    · go_ret2
      have : k = n := by omega
      subst this
      refine ⟨ret_ib ?_ rfl, rfl⟩
      rw [HX.out]

set_option maxHeartbeats 1000000 in
theorem rtwo_right (a : Int) (n : Nat) (hn : n ≤ 63) (w : World) :
    Calls Try.prog 34 #[.int .i64 22, .int .i64 a, .int .i64 n] w fun e w' => e = .returned (.tuple #[.int .i64 (wrap64 (IntKind.u64.wrap a / 2 ^ n)), .bool true]) ∧ w = w' := by
  go_enter Try.func34, Try.ntmps34
  go_wp2_with (first | (go_at_call 67; refine (risTwo_any _ _).mono ?_; rintro e w' ⟨rfl, rfl⟩))
  go_loop [10, 11] (fun x i => ∃ k : Nat, k ≤ n ∧ i = .int .i64 k ∧ x = .int .u64 (IntKind.u64.wrap a / 2 ^ k)) (fun _ i => n - (intOf i).toNat)
  case atStart => exact ⟨0, Nat.zero_le _, rfl, by simp⟩
  case round =>
    obtain ⟨k, hk, rfl, rfl⟩ := hrel
    have hs := Lib.hid (ret_shr a k)
    have hb := div_range k (u64_range a)
    obtain ⟨X, hX⟩ : ∃ X, X = IntKind.u64.wrap a / 2 ^ k := ⟨_, rfl⟩
    rw [← hX] at hs hb ⊢
    obtain ⟨hb1, hb2⟩ := hb
    have HX := Lib.hid hX
    clear hX
    go_wp2
    · go_round
      case rel => exact ⟨k + 1, by omega, by go_num, congrArg _ (by rw [hs.out])⟩
      case measure => simp [intOf]; omega
    · go_ret2
      have : k = n := by omega
      subst this
      refine ⟨ret_ib ?_ rfl, rfl⟩
      rw [HX.out]

set_option maxHeartbeats 1000000 in
theorem rtwo_any (op a b : Int) (w : World) :
    Calls Try.prog 34 #[.int .i64 op, .int .i64 a, .int .i64 b] w fun e w' => e = .returned (.tuple #[.int .i64 (Cn.rtwo op a b), .bool (Cn.isTwo op b)]) ∧ w = w' := by
  by_cases hs : (op = 21 ∨ op = 22) ∧ 0 ≤ b ∧ b ≤ 63
  · obtain ⟨ho, hb0, hb1⟩ := hs
    obtain ⟨n, rfl⟩ := Int.eq_ofNat_of_zero_le hb0
    rcases ho with rfl | rfl
    · refine (rtwo_left a n (by omega) w).mono fun e w' ⟨he, hw⟩ => ⟨?_, hw⟩
      rw [he]
      exact ret_ib (by simp [Cn.rtwo, Cn.rshift]; intro; omega) rfl
    · refine (rtwo_right a n (by omega) w).mono fun e w' ⟨he, hw⟩ => ⟨?_, hw⟩
      rw [he]
      exact ret_ib (by simp [Cn.rtwo, Cn.rshift]; intro; omega) rfl
  · by_cases ho : op = 21 ∨ op = 22
    · have hb : b < 0 ∨ 63 < b := by omega
      clear hs
      rcases ho with rfl | rfl <;> rcases hb with hb | hb
      all_goals
        go_enter Try.func34, Try.ntmps34
        go_wp2_with (go_at_call 67; refine (risTwo_any _ _).mono ?_; rintro e w' ⟨rfl, rfl⟩)
        go_ret2
        exact ⟨ret_ib (by simp [Cn.rtwo, Cn.rshift]; intro; omega) rfl, rfl⟩
    · have ho1 : (op == 21) = false := beq_eq_false_iff_ne.2 (by omega)
      have ho2 : (op == 22) = false := beq_eq_false_iff_ne.2 (by omega)
      have HO := Lib.hid ho
      clear hs ho
      by_cases h0 : b = 0
      · subst h0
        go_enter Try.func34, Try.ntmps34
        go_wp2_with (first | (go_at_call 67; refine (risTwo_any _ _).mono ?_; rintro e w' ⟨rfl, rfl⟩) | (go_at_call 68; refine (rflag_any _ _).mono ?_; rintro e w' ⟨rfl, rfl⟩))
        all_goals
          go_ret2
          refine ⟨ret_ib ?_ ?_, rfl⟩
        all_goals go_light
        all_goals have ho := HO.out
        all_goals clear HO
        all_goals try exact Cn.rtwo_none1 _ _ (by assumption)
        all_goals try exact Cn.rtwo_none2 _ (by assumption)
        all_goals try (have hm := Cn.rtwo_max (op := op) (by assumption) (by assumption) (by assumption) (by assumption) (by assumption) (by assumption) (by assumption) (by assumption) (by assumption) (by assumption) (by assumption) (by assumption) (by assumption) (by assumption) (by assumption); subst hm)
        all_goals simp_all [Cn.rtwo, Cn.isTwo, Cn.cmp, Cn.w0, Cn.u0]
        all_goals omega
      · have h1 : (b == 0) = false := beq_eq_false_iff_ne.2 h0
        have H0 := Lib.hid h0
        clear h0
        go_enter Try.func34, Try.ntmps34
        go_wp2_with (first | (go_at_call 67; refine (risTwo_any _ _).mono ?_; rintro e w' ⟨rfl, rfl⟩) | (go_at_call 68; refine (rflag_any _ _).mono ?_; rintro e w' ⟨rfl, rfl⟩) | (go_at_call 36; refine (rfloor_any _ _ H0.out _).mono ?_; rintro e w' ⟨rfl, rfl⟩))
        all_goals
          go_ret2
          refine ⟨ret_ib ?_ ?_, rfl⟩
        all_goals go_light
        all_goals have ho := HO.out
        all_goals have h0 := H0.out
        all_goals clear HO H0
        all_goals try exact Cn.rtwo_none1 _ _ (by assumption)
        all_goals try exact Cn.rtwo_none2 _ (by assumption)
        all_goals try (have hm := Cn.rtwo_max (op := op) (by assumption) (by assumption) (by assumption) (by assumption) (by assumption) (by assumption) (by assumption) (by assumption) (by assumption) (by assumption) (by assumption) (by assumption) (by assumption) (by assumption) (by assumption); subst hm)
        all_goals simp_all [Cn.rtwo, Cn.isTwo, Cn.cmp]
        all_goals omega
end Go.Proofs.Ytaikagkakajdfaa
