/- The walk of PileCuts. -/
import Derived.Test.YtaikagkakajdfaaPileCut
namespace Go.Proofs.Ytaikagkakajdfaa
open Go.RowKit

/-- A list cut to n numbers, or filled up with zeros. -/
def cutTo (xs : List Int) (n : Nat) : List Int := xs.take n ++ List.replicate (n - xs.length) 0
theorem cutTo_length (xs : List Int) (n : Nat) : (cutTo xs n).length = n := by unfold cutTo; simp; omega
theorem cutTo_get (xs : List Int) (n k : Nat) (h : k < n) : (cutTo xs n).getD k 0 = xs.getD k 0 := by
  unfold cutTo
  simp only [List.getD_eq_getElem?_getD]
  by_cases hk : k < xs.length
  · rw [List.getElem?_append_left (by rw [List.length_take]; omega), List.getElem?_take, if_pos h]
  · rw [List.getElem?_append_right (by rw [List.length_take]; omega), List.getElem?_replicate, List.getElem?_eq_none (l := xs) (by omega)]
    split <;> rfl
theorem cutTo_cut (xs : List Int) (n : Nat) (h : xs.length ≤ n) : cutTo (cutTo xs n) xs.length = xs := by
  have h1 := cutTo_length xs n
  have h2 : cutTo (cutTo xs n) xs.length = (cutTo xs n).take xs.length := by
    unfold cutTo at h1 ⊢
    rw [h1, show xs.length - n = 0 by omega]; simp
  rw [h2]
  unfold cutTo
  rw [List.take_of_length_le h, List.take_left]
theorem cutTo_less (xs : List Int) (n : Nat) (h : n < xs.length) : cutTo xs n ++ xs.drop n = xs := by
  unfold cutTo
  rw [show n - xs.length = 0 by omega]; simp

theorem cut_our (w0 : World) (F : Nat → Prop) (b : Nat) (most : Nat) (xs : List Int) (n : Int) (N : Nat) (hN : n = N) (w : World) (h : Our w0 w F b most xs) (hn : N ≤ most) :
    Calls Try.prog 20 #[.pointer (some ⟨b, 0, none⟩), .int .i64 n] w fun e w' => e = .returned (.bool true) ∧ Our w0 w' (More F w w') b most (cutTo xs N) ∧ Chg F w w' := by
  subst hN
  obtain ⟨v, hp, hc, hb, hv, hk⟩ := h
  have fin : ∀ ys (w' : World), Pile2 b v most ys w w' → Our w0 w' (More F w w') b most ys ∧ Chg F w w' := by
    intro ys w' ⟨v', hp', hc', hv'⟩
    have hc2 : Chg F w w' := hc'.mono (fun k _ h => by rcases h with rfl | h; exact hb; exact hv k h)
    refine ⟨⟨v', hp', hc.later hc2 (fun k h => (hk k h).1), Or.inl hb, fun k h => ?_, fun k h => ?_⟩, hc2⟩
    · rcases hv' with e | ⟨j, hj, e⟩
      · exact Or.inl (hv k (by rw [← e]; exact h))
      · rw [h] at e; cases e; exact Or.inr ⟨hj, Own.lt hp'.2.1 h⟩
    · have h1 := hc.size
      have h2 := hc2.size
      rcases h with h | h
      · have := hk k h; omega
      · omega
  by_cases hlt : N < xs.length
  · refine (cut_less b v most xs N w hp hlt).mono fun e w' ⟨he, h2⟩ => ⟨he, fin _ _ ?_⟩
    unfold cutTo; rw [show N - xs.length = 0 by omega]; simpa using h2
  · refine (cut_more b v most xs N w hp (by omega) hn).mono fun e w' ⟨he, h2⟩ => ⟨he, fin _ _ ?_⟩
    unfold cutTo; rw [List.take_of_length_le (by omega)]; exact h2
theorem cut_our_no (w0 : World) (F : Nat → Prop) (b : Nat) (most : Nat) (xs : List Int) (n : Int) (w : World) (h : Our w0 w F b most xs) (hn : n < 0 ∨ (most : Int) < n) :
    Calls Try.prog 20 #[.pointer (some ⟨b, 0, none⟩), .int .i64 n] w fun e w' => e = .returned (.bool false) ∧ w = w' := by
  obtain ⟨v, hp, _⟩ := h
  exact cut_no b v most xs n w hp hn

set_option maxRecDepth 100000 in
set_option maxHeartbeats 4000000 in
theorem pileCuts_walk (l : Value) (xs : List Int) (n : Int) (w : World) (hl : RdI w l xs) :
    Calls Try.prog 5 #[l, .int .i64 n] w fun e w' => e = .returned (.bool true) ∧ Chg No w w' := by
  obtain ⟨lo, lc, rfl, _⟩ := id hl
  obtain ⟨_, hl1, hl2, _⟩ := RdI.cells hl
  unfold maxLen at hl2
  have HL := Lib.hid hl
  clear hl
  by_cases h1 : xs.length ≤ 60 ∧ 0 ≤ n ∧ n ≤ 100
  · obtain ⟨h1, h2, h3⟩ := h1
    obtain ⟨N, rfl⟩ := Int.eq_ofNat_of_zero_le h2
    go_enter Try.func5, Try.ntmps5
    go_wp2_with (go_at_call 13; refine (alive5_any _).mono ?_; rintro e w1 ⟨rfl, hc1⟩)
    refine (new_any 100 100 _ xs _ (HL.out.old hc1) (Fits.of (by omega)) (by omega)).mono ?_
    intro e w2 hnew
    obtain ⟨p, rfl, ho⟩ := Our.new (w0 := w) hnew hc1
    rw [List.take_of_length_le (by omega)] at ho
    have HP := Lib.hid ho
    clear hnew ho hc1
    go_wp2_with fail
    refine (cut_our w _ p 100 xs N N rfl _ HP.out (by omega)).mono ?_
    rintro e w3 ⟨rfl, ho3, hc3⟩
    obtain ⟨ys, hys⟩ : ∃ ys, ys = cutTo xs N := ⟨_, rfl⟩
    have hyl : ys.length = N := by rw [hys, cutTo_length]
    rw [← hys] at ho3
    have HP3 := Lib.hid ho3
    have HYL := Lib.hid hyl
    have HYS := Lib.hid hys
    clear ho3 hc3 HP hyl hys
    go_wp2_with fail
    refine (len_our w _ p 100 ys _ HP3.out).mono ?_
    rintro e w4 ⟨rfl, rfl⟩
    rw [HYL.out]
    go_wp2_with fail
    refine (cut_our_no w _ p 100 ys 101 _ HP3.out (Or.inr (by omega))).mono ?_
    rintro e w4 ⟨rfl, rfl⟩
    go_wp2_with fail
    refine (cut_our_no w _ p 100 ys (-1) _ HP3.out (Or.inl (by omega))).mono ?_
    rintro e w4 ⟨rfl, rfl⟩
    go_wp2_with fail
    refine (all_our w _ p 100 ys _ HP3.out).mono ?_
    rintro e w5 ⟨ao, ac, rfl, hr5, ho5, hn5, hc5⟩
    rw [HYL.out] at hr5 ⊢
    have HP5 := Lib.hid ho5
    have HR5 := Lib.hid hr5
    have HL5 := Lib.hid (HL.out.old ho5.chg)
    clear hr5 ho5 hn5 hc5 HP3
    go_wp2_with fail
    go_loop [7] (fun i => ∃ k : Nat, k ≤ N ∧ i = .int .i64 k) (fun i => N - (intOf i).toNat)
    case atStart => exact ⟨0, Nat.zero_le _, rfl⟩
    case round =>
      obtain ⟨k, hk, rfl⟩ := hrel
      by_cases hlt : k < N
      · obtain ⟨ab, aoff, rfl, hac⟩ := RdI.at (xs := ys) (n := N) (cap := ac) (by exact HR5.out) (by rw [HYL.out]; omega)
        have d1 := hac k (by rw [HYL.out]; exact hlt)
        rw [show ys.getD k 0 = xs.getD k 0 from by rw [HYS.out, cutTo_get _ _ _ hlt]] at d1
        have hk0 : (0 : Int) ≤ k := by omega
        have hk1 : (k : Int) < N := by omega
        clear hac
        by_cases hkl : k < xs.length
        · obtain ⟨lb, loff, rfl, hlc⟩ := RdI.at HL5.out (by omega)
          have d2 := hlc k hkl
          have hk2 : (k : Int) < xs.length := by omega
          obtain ⟨X, hX⟩ : ∃ X, X = xs.getD k 0 := ⟨_, rfl⟩
          rw [← hX] at d1 d2
          clear hX hlc
          go_wp2
          go_round
          case rel => exact ⟨k + 1, by omega, by go_num⟩
          case measure => simp [intOf]; omega
        · have hk2 : ¬ (k : Int) < xs.length := by omega
          rw [show xs.getD k 0 = 0 from by simp [List.getD_eq_getElem?_getD, List.getElem?_eq_none (l := xs) (i := k) (by omega)]] at d1
          go_wp2
          go_round
          case rel => exact ⟨k + 1, by omega, by go_num⟩
          case measure => simp [intOf]; omega
      · have hk' : k = N := by omega
        subst hk'
        have HLT := Lib.hid hlt
        clear hlt hk
        by_cases hge : xs.length ≤ k
        · go_wp2_with fail
          refine (cut_our w _ p 100 ys xs.length xs.length rfl _ HP5.out (by omega)).mono ?_
          rintro e w6 ⟨rfl, ho6, hc6⟩
          rw [show cutTo ys xs.length = xs from by rw [HYS.out, cutTo_cut _ _ hge]] at ho6
          have HP6 := Lib.hid ho6
          clear ho6 hc6 HP5 HR5
          go_wp2_with fail
          refine (all_our w _ p 100 xs _ HP6.out).mono ?_
          rintro e w7 ⟨bo, bc, rfl, hr7, ho7, hn7, hc7⟩
          have HP7 := Lib.hid ho7
          have HR7 := Lib.hid hr7
          clear hr7 ho7 hn7 hc7 HP6
          go_wp2_with fail
          refine (sameInts_any _ _ xs xs _ HR7.out (HL.out.old HP7.out.chg)).mono ?_
          rintro e w8 ⟨rfl, n8, rfl⟩
          rw [decide_eq_true rfl]
          go_wp2
          go_ret
          exact ⟨rfl, HP7.out.chg.later (Chg.drewN No _ _) (fun _ h => h.elim)⟩
        · have hlc : ¬ lc = k := by omega
          have hlt : k < xs.length := by omega
          have hkl : (k : Int) ≤ lc := by omega
          have HT := Lib.hid (RdI.tail1 (m := k) HL5.out (by omega) hlc)
          go_wp2_with fail
          refine (push_our w _ p _ 100 ys (xs.drop k) _ HP5.out HT.out).mono ?_
          rintro e w6 ⟨rfl, ho6, hc6⟩
          have hroom : ys.length + (xs.drop k).length ≤ 100 := by rw [HYL.out, List.length_drop]; omega
          rw [decide_eq_true hroom]
          rw [if_pos hroom, HYS.out, cutTo_less _ _ hlt] at ho6
          have HP6 := Lib.hid ho6
          clear ho6 hc6 HP5 HR5 hroom HT
          go_wp2_with fail
          refine (all_our w _ p 100 xs _ HP6.out).mono ?_
          rintro e w7 ⟨bo, bc, rfl, hr7, ho7, hn7, hc7⟩
          have HP7 := Lib.hid ho7
          have HR7 := Lib.hid hr7
          clear hr7 ho7 hn7 hc7 HP6
          go_wp2_with fail
          refine (sameInts_any _ _ xs xs _ HR7.out (HL.out.old HP7.out.chg)).mono ?_
          rintro e w8 ⟨rfl, n8, rfl⟩
          rw [decide_eq_true rfl]
          go_wp2
          go_ret
          exact ⟨rfl, HP7.out.chg.later (Chg.drewN No _ _) (fun _ h => h.elim)⟩
  · have hc : 60 < xs.length ∨ (xs.length ≤ 60 ∧ n < 0) ∨ (xs.length ≤ 60 ∧ 0 ≤ n ∧ 100 < n) := by omega
    clear h1
    rcases hc with h1 | ⟨h1, h2⟩ | ⟨h1, h2, h3⟩
    all_goals
      go_enter Try.func5, Try.ntmps5
      go_wp2_with (go_at_call 13; refine (alive5_any _).mono ?_; rintro e w1 ⟨rfl, hc1⟩)
      go_ret
      exact ⟨rfl, by assumption⟩
end Go.Proofs.Ytaikagkakajdfaa
