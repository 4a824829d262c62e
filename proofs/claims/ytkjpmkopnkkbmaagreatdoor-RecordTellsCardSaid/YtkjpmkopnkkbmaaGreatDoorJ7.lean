/- The document's own answers (hollowayref1, hollowayref15). -/
import Derived.Test.YtkjpmkopnkkbmaaGreatDoorJ3
import Derived.Test.YtkjpmkopnkkbmaaGreatDoorJ5
import Derived.Test.YtkjpmkopnkkbmaaGreatDoorJ4

/- The document's own answer to cells and digits (hollowayref1), over the lifted text. -/
set_option maxRecDepth 100000
namespace Go.Proofs.YtkjpmkopnkkbmaaGreatDoor
open Go.RowKit

theorem rflag_any (b : Bool) (w : World) : Calls Tryz.prog fn_hollowayref1_Flag #[.bool b] w fun e w' => e = .returned (.int .i64 (Cn.flag b)) ∧ w = w' := by
  refine (hollowayref1_Flag_lift (K := fun r w' => r = .int .i64 (Cn.flag b) ∧ w = w') ?_).mono (by rintro e w' ⟨r, rfl, rfl, h⟩; exact ⟨rfl, h⟩)
  unfold hollowayref1_Flag_sh
  exact brB_of (fun h => ⟨by rw [h]; rfl, rfl⟩) (fun h => ⟨by rw [h]; rfl, rfl⟩)
theorem risOne_any (op : Int) (w : World) : Calls Tryz.prog fn_hollowayref1_IsOne #[.int .i64 op] w fun e w' => e = .returned (.bool (Cn.risOne op)) ∧ w = w' := by
  refine (hollowayref1_IsOne_lift (K := fun r w' => r = .bool (Cn.risOne op) ∧ w = w') ?_).mono (by rintro e w' ⟨r, rfl, rfl, h⟩; exact ⟨rfl, h⟩)
  unfold hollowayref1_IsOne_sh
  repeat' refine brB_of (fun _ => ?_) (fun _ => ?_)
  all_goals
    refine ⟨?_, rfl⟩
    congr 1
    rw [Bool.eq_iff_iff]; unfold Cn.risOne; simp at *; omega
theorem risTwo_any (op : Int) (w : World) : Calls Tryz.prog fn_hollowayref1_IsTwo #[.int .i64 op] w fun e w' => e = .returned (.bool (Cn.risTwo op)) ∧ w = w' := by
  refine (hollowayref1_IsTwo_lift (K := fun r w' => r = .bool (Cn.risTwo op) ∧ w = w') ?_).mono (by rintro e w' ⟨r, rfl, rfl, h⟩; exact ⟨rfl, h⟩)
  unfold hollowayref1_IsTwo_sh
  repeat' refine brB_of (fun _ => ?_) (fun _ => ?_)
  all_goals
    refine ⟨?_, rfl⟩
    congr 1
    rw [Bool.eq_iff_iff]; unfold Cn.risTwo; simp at *; omega
theorem wr_wrap (x : Int) : wr x = wrap64 x := IntWalk.i64_left x
theorem rone_any (op a : Int) (w : World) : Calls Tryz.prog fn_hollowayref1_One #[.int .i64 op, .int .i64 a] w fun e w' => e = .returned (.tuple #[.int .i64 (Cn.rone op a), .bool (Cn.isOne op)]) ∧ w = w' := by
  refine (hollowayref1_One_lift (K := fun r w' => r = .tuple #[.int .i64 (Cn.rone op a), .bool (Cn.isOne op)] ∧ w = w') ?_).mono (by rintro e w' ⟨r, rfl, rfl, h⟩; exact ⟨rfl, h⟩)
  unfold hollowayref1_One_sh Cn.rone Cn.isOne
  refine brB_of (fun h => ?_) (fun h => brB_of (fun h2 => ?_) (fun h2 => brB_of (fun h3 => ?_) (fun h3 => brB_of (fun h4 => ?_) (fun h4 => ?_))))
  · have h : op = 16 := by simpa using h
    subst h; refine ⟨?_, rfl⟩; rw [wr_wrap, if_pos rfl, if_pos rfl, show 0 - a = -a by omega]
  · have h : op = 20 := by simpa using h2
    subst h; refine ⟨?_, rfl⟩; rw [wr_wrap]; rfl
  · have h : op = 26 := by simpa using h3
    subst h
    refine (rflag_any _ _).mono ?_
    rintro e w' ⟨rfl, rfl⟩
    exact ⟨_, rfl, rfl, rfl⟩
  · have h : op = 27 := by simpa using h4
    subst h
    refine (rflag_any _ _).mono ?_
    rintro e w' ⟨rfl, rfl⟩
    exact ⟨_, rfl, rfl, rfl⟩
  · have h : op ≠ 16 := by simpa using h
    have h2 : op ≠ 20 := by simpa using h2
    have h3 : op ≠ 26 := by simpa using h3
    have h4 : op ≠ 27 := by simpa using h4
    refine ⟨?_, rfl⟩
    rw [if_neg h, if_neg h2, if_neg h3, if_neg h4, if_neg h, if_neg h2, if_neg h3, if_neg h4]
theorem rfloor_any (a b : Int) (h0 : b ≠ 0) (w : World) : Calls Tryz.prog fn_hollowayref1_Floor #[.int .i64 a, .int .i64 b] w fun e w' => e = .returned (.tuple #[.int .i64 (Cn.rquo a b), .int .i64 (Cn.rrem a b)]) ∧ w = w' := by
  refine (hollowayref1_Floor_lift (K := fun r w' => r = .tuple #[.int .i64 (Cn.rquo a b), .int .i64 (Cn.rrem a b)] ∧ w = w') ?_).mono (by rintro e w' ⟨r, rfl, rfl, h⟩; exact ⟨rfl, h⟩)
  unfold hollowayref1_Floor_sh
  refine ⟨h0, fun c w' => c = decide (Cn.rodd a b) ∧ w = w', ?_, ?_⟩
  · rintro c w3 ⟨rfl, rfl⟩
    simp only [wr_wrap]
    refine brB_of (fun h => ?_) (fun h => ?_)
    · have h := of_decide_eq_true h
      unfold Cn.rquo Cn.rrem
      rw [if_pos h, if_pos h]; exact ⟨rfl, trivial⟩
    · have h := of_decide_eq_false h
      unfold Cn.rquo Cn.rrem
      rw [if_neg h, if_neg h]; exact ⟨rfl, trivial⟩
  · have hr : wr (a - wr (wr (Int.tdiv a b) * b)) = Cn.rr a b := by unfold Cn.rr; simp only [wr_wrap]
    rw [hr]
    refine brB_of (fun h => ⟨?_, rfl⟩) (fun h => ⟨?_, rfl⟩)
    · have h : Cn.rr a b ≠ 0 := by simpa using h
      unfold Cn.rodd
      by_cases h1 : Cn.rr a b < 0 <;> by_cases h2 : b < 0 <;> simp [h, h1, h2]
    · have h : Cn.rr a b = 0 := by simpa using h
      symm; apply decide_eq_false
      rintro ⟨h1, _⟩; exact h1 h
theorem ret_shl (a : Int) (k : Nat) : IntKind.u64.wrap (IntKind.u64.wrap (a * 2 ^ k) * 2) = IntKind.u64.wrap (a * 2 ^ (k + 1)) := by
  rw [Int.pow_succ]; simp only [IntKind.wrap_u64]; rw [← Int.mul_assoc]; omega
theorem ret_shr (a : Int) (k : Nat) : IntKind.u64.wrap a / 2 ^ k / 2 = IntKind.u64.wrap a / 2 ^ (k + 1) := by
  rw [Int.pow_succ, ← Int.ediv_ediv_of_nonneg (Int.pow_nonneg (by decide))]
theorem u64_range (a : Int) : 0 ≤ IntKind.u64.wrap a ∧ IntKind.u64.wrap a ≤ 18446744073709551615 := by rw [IntKind.wrap_u64]; omega
theorem div_range {x : Int} (k : Nat) (h : 0 ≤ x ∧ x ≤ 18446744073709551615) : 0 ≤ x / 2 ^ k ∧ x / 2 ^ k ≤ 18446744073709551615 := by
  have hp : (0 : Int) < 2 ^ k := Int.pow_pos (by decide)
  refine ⟨Int.ediv_nonneg h.1 (by omega), ?_⟩
  have : x / 2 ^ k ≤ x := Int.ediv_le_self _ h.1
  omega
theorem imin_eq (a b : Int) : imin a b = min a b := by unfold imin; split <;> omega
theorem imax_eq (a b : Int) : imax a b = max a b := by unfold imax; split <;> omega
theorem rtwo_any (op a b : Int) (hb : -9223372036854775808 ≤ b ∧ b ≤ 9223372036854775807) (w : World) : Calls Tryz.prog fn_hollowayref1_Two #[.int .i64 op, .int .i64 a, .int .i64 b] w fun e w' => e = .returned (.tuple #[.int .i64 (Cn.rtwo op a b), .bool (Cn.isTwo op b)]) ∧ w = w' := by
  refine (hollowayref1_Two_lift (K := fun r w' => r = .tuple #[.int .i64 (Cn.rtwo op a b), .bool (Cn.isTwo op b)] ∧ w = w') ?_).mono (by rintro e w' ⟨r, rfl, rfl, h⟩; exact ⟨rfl, h⟩)
  unfold hollowayref1_Two_sh
  refine (risTwo_any op w).mono ?_
  rintro e w5 ⟨rfl, rfl⟩
  refine ⟨_, rfl, brB_of (fun h0 => ?_) (fun h0 => ?_)⟩
  · refine ⟨?_, rfl⟩
    rw [← Cn.rtwo_none1 a b h0, ← Cn.rtwo_none2 b h0]
  have ne : ∀ {n : Int}, (op == n) = false → op ≠ n := fun h => by simpa using h
  have eq : ∀ {n : Int}, (op == n) = true → op = n := fun h => by simpa using h
  refine brB_of (fun h1 => ?_) (fun h1 => brB_of (fun h2 => ?_) (fun h2 => brB_of (fun h3 => ?_) (fun h3 => ?_)))
  · have := eq h1; subst this; exact ⟨by rw [wr_wrap]; rfl, rfl⟩
  · have := eq h2; subst this; exact ⟨by rw [wr_wrap]; rfl, rfl⟩
  · have := eq h3; subst this; exact ⟨by rw [wr_wrap]; rfl, rfl⟩
  refine ⟨fun c w' => c = decide (op = 14 ∨ op = 15) ∧ w = w', ?_, ?_⟩
  · rintro c w7 ⟨rfl, rfl⟩
    refine brB_of (fun h45 => ?_) (fun h45 => ?_)
    · have h45 := of_decide_eq_true h45
      refine brB_of (fun hz => ?_) (fun hz => ?_)
      · have hz : b = 0 := by simpa using hz
        subst hz
        rcases h45 with rfl | rfl <;> exact ⟨rfl, rfl⟩
      · have hz : b ≠ 0 := by simpa using hz
        refine (rfloor_any a b hz w).mono ?_
        rintro e w10 ⟨rfl, rfl⟩
        refine ⟨_, _, rfl, ?_⟩
        rcases h45 with rfl | rfl
        · refine brB_t ⟨?_, rfl⟩
          unfold Cn.rtwo Cn.isTwo; simp [hz]
        · refine brB_f ⟨?_, rfl⟩
          unfold Cn.rtwo Cn.isTwo; simp [hz]
    · have h45 := of_decide_eq_false h45
      have h4 : (op == 14) = false := by simp; omega
      have h5 : (op == 15) = false := by simp; omega
      refine brB_of (fun h6 => ?_) (fun h6 => brB_of (fun h7 => ?_) (fun h7 => brB_of (fun h8 => ?_) (fun h8 => ?_)))
      · have := eq h6; subst this; exact ⟨rfl, rfl⟩
      · have := eq h7; subst this; exact ⟨rfl, rfl⟩
      · have := eq h8; subst this; exact ⟨rfl, rfl⟩
      refine ⟨fun c w' => c = decide (op = 21 ∨ op = 22) ∧ w = w', ?_, ?_⟩
      · rintro c w13 ⟨rfl, rfl⟩
        refine brB_of (fun hs => ?_) (fun hs => ?_)
        · have hs := of_decide_eq_true hs
          have hres : Cn.rtwo op a b = Cn.rshift op a b ∧ Cn.isTwo op b = true := by rcases hs with rfl | rfl <;> exact ⟨rfl, rfl⟩
          rw [hres.1, hres.2]
          refine ⟨fun c w' => c = decide (b < 0 ∨ 63 < b) ∧ w = w', ?_, ?_⟩
          · rintro c w15 ⟨rfl, rfl⟩
            refine brB_of (fun hz => ⟨?_, rfl⟩) (fun hz => ?_)
            · have hz := of_decide_eq_true hz
              unfold Cn.rshift; rw [if_pos hz]
            · have hz := of_decide_eq_false hz
              obtain ⟨n, rfl⟩ := Int.eq_ofNat_of_zero_le (show 0 ≤ b by omega)
              have hn : n ≤ 63 := by omega
              refine ⟨fun x k w' => ∃ j : Nat, k = j ∧ j ≤ n ∧ x = (if op = 21 then IntKind.u64.wrap (a * 2 ^ j) else IntKind.u64.wrap a / 2 ^ j) ∧ w = w', fun _ k _ => n - k.toNat, ⟨0, rfl, Nat.zero_le _, by simp, rfl⟩, ?_⟩
              rintro x k w17 ⟨j, rfl, hj, rfl, rfl⟩
              refine brB_of (fun hlt => ?_) (fun hlt => ?_)
              · have hlt : j < n := by simpa using hlt
                refine ⟨fun x w' => x = (if op = 21 then IntKind.u64.wrap (a * 2 ^ (j + 1)) else IntKind.u64.wrap a / 2 ^ (j + 1)) ∧ w = w', ?_, ?_⟩
                · rintro x w20 ⟨rfl, rfl⟩
                  rw [wr_in (by omega)]
                  exact ⟨⟨j + 1, by omega, by omega, rfl, rfl⟩, by show n - Int.toNat ((j : Int) + 1) < n - Int.toNat (j : Int); omega⟩
                · refine brB_of (fun h21 => ?_) (fun h21 => ?_)
                  · have h21 := eq h21
                    rw [if_pos h21, if_pos h21]
                    exact ⟨ret_shl a j, rfl⟩
                  · have h21 := ne h21
                    rw [if_neg h21, if_neg h21]
                    refine ⟨by decide, ?_, rfl⟩
                    have hd := div_range j (u64_range a)
                    rw [Int.tdiv_eq_ediv_of_nonneg hd.1, ret_shr]
                    have hd' := div_range (j + 1) (u64_range a)
                    rw [IntKind.wrap_u64]; omega
              · have hlt : j = n := by have : ¬ j < n := by simpa using hlt
                                       omega
                subst hlt
                refine ⟨?_, rfl⟩
                unfold Cn.rshift
                rw [wr_wrap, Int.toNat_natCast]
                by_cases h21 : op = 21
                · rw [if_pos h21, if_neg hz, if_pos h21]
                · rw [if_neg h21, if_neg hz, if_neg h21]
          · refine brB_of (fun hb0 => ⟨?_, rfl⟩) (fun hb0 => ⟨?_, rfl⟩)
            · have hb0 := of_decide_eq_true hb0
              symm; apply decide_eq_true; omega
            · have hb0 := of_decide_eq_false hb0
              rw [Bool.eq_iff_iff]; simp; omega
        · have hs := of_decide_eq_false hs
          have h9 : (op == 21) = false := by simp; omega
          have h10 : (op == 22) = false := by simp; omega
          refine brB_of (fun h11 => ?_) (fun h11 => brB_of (fun h12 => ?_) (fun h12 => brB_of (fun h13 => ?_) (fun h13 => brB_of (fun h14 => ?_) (fun h14 => ?_))))
          · have := eq h11; subst this
            refine (rflag_any _ _).mono ?_
            rintro e w' ⟨rfl, rfl⟩
            exact ⟨_, rfl, rfl, rfl⟩
          · have := eq h12; subst this
            refine (rflag_any _ _).mono ?_
            rintro e w' ⟨rfl, rfl⟩
            exact ⟨_, rfl, rfl, rfl⟩
          · have := eq h13; subst this
            refine (rflag_any _ _).mono ?_
            rintro e w' ⟨rfl, rfl⟩
            exact ⟨_, rfl, rfl, rfl⟩
          · have := eq h14; subst this
            rw [imin_eq]; exact ⟨rfl, rfl⟩
          · have := Cn.rtwo_max h0 h1 h2 h3 h4 h5 h6 h7 h8 h9 h10 h11 h12 h13 h14
            subst this
            rw [imax_eq]; exact ⟨rfl, rfl⟩
      · refine brB_of (fun h21 => ⟨?_, rfl⟩) (fun h21 => ⟨?_, rfl⟩)
        · rw [h21]; have := eq h21; symm; exact decide_eq_true (Or.inl this)
        · have h21 := ne h21
          rw [Bool.eq_iff_iff]; simp; intro h; exact absurd h h21
  · refine brB_of (fun h21 => ⟨?_, rfl⟩) (fun h21 => ⟨?_, rfl⟩)
    · rw [h21]; have := eq h21; symm; exact decide_eq_true (Or.inl this)
    · have h21 := ne h21
      rw [Bool.eq_iff_iff]; simp; intro h; exact absurd h h21
theorem bs_app (l m : List UInt8) : bs l ++ bs m = bs (l ++ m) := by
  apply ByteArray.ext
  rw [ByteArray.data_append]; simp [bs]
theorem dig_x (n : Nat) : ByteArray.extract (bs [48, 49, 50, 51, 52, 53, 54, 55, 56, 57, 65, 66, 67, 68, 69, 70, 71, 72, 73, 74, 75, 76, 77, 78, 79, 80, 81, 82, 83, 84, 85, 86, 87, 88, 89, 90]) (n % 10) (n % 10 + 1) = bs [UInt8.ofNat (48 + n % 10)] := by
  have h : ∀ k : Fin 10, (ByteArray.extract (bs [48, 49, 50, 51, 52, 53, 54, 55, 56, 57, 65, 66, 67, 68, 69, 70, 71, 72, 73, 74, 75, 76, 77, 78, 79, 80, 81, 82, 83, 84, 85, 86, 87, 88, 89, 90]) k.val (k.val + 1)).data.toList = [UInt8.ofNat (48 + k.val)] := by decide +kernel
  apply ByteArray.ext
  apply Array.toList_inj.1
  exact h ⟨n % 10, Nat.mod_lt _ (by decide)⟩
theorem rput_any (v : Int) (w : World) : Calls Tryz.prog fn_hollowayref1_Put #[.int .i64 v, .int .i64 10] w fun e w' => e = .returned (.string (putV v)) ∧ w = w' := by
  refine (hollowayref1_Put_lift (K := fun r w' => r = .string (putV v) ∧ w = w') ?_).mono (by rintro e w' ⟨r, rfl, rfl, h⟩; exact ⟨rfl, h⟩)
  unfold hollowayref1_Put_sh
  have e10 : IntKind.wrap .u64 10 = 10 := by decide
  have hu : ∀ x : Int, 0 ≤ IntKind.wrap .u64 x ∧ IntKind.wrap .u64 x < 18446744073709551616 := fun x => by rw [IntKind.wrap_u64]; omega
  refine ⟨fun b w' => b = false ∧ w = w', ?_, brB_f ⟨rfl, rfl⟩⟩
  rintro b w3 ⟨rfl, rfl⟩
  refine brB_f ⟨fun n w' => n = (absN v : Int) ∧ w = w', ?_, ?_⟩
  · rintro n w6 ⟨rfl, rfl⟩
    have hN : absN v < 10 ^ 20 := by
      unfold absN
      have := hu (0 - IntKind.wrap .u64 v)
      have := hu v
      split <;> omega
    refine ⟨fun n o w' => ∃ (k f : Nat) (l : List UInt8), n = (k : Int) ∧ k < 10 ^ f ∧ (l = [] → 0 < f) ∧ f + l.length ≤ 20 ∧ dg f k l = dg 20 (absN v) [] ∧ o = bs l ∧ w = w', fun n o _ => if n = 0 ∧ o.size ≠ 0 then 0 else n.toNat + 1 + (1 - o.size), ⟨absN v, 20, [], rfl, hN, (fun _ => by decide), by simp, rfl, rfl, rfl⟩, ?_⟩
    rintro n o w7 ⟨k, f, l, rfl, hk, hl, hfl, hd, rfl, rfl⟩
    have hlen : ∀ l : List UInt8, (bs l).size = l.length := fun _ => rfl
    have step : (0 < k ∨ l = []) → hollowayref1_Put_j1 10 (k : Int) (bs l) (fun n o w' => ∃ (k f : Nat) (l : List UInt8), n = (k : Int) ∧ k < 10 ^ f ∧ (l = [] → 0 < f) ∧ f + l.length ≤ 20 ∧ dg f k l = dg 20 (absN v) [] ∧ o = bs l ∧ w = w') (fun n o _ => if n = 0 ∧ o.size ≠ 0 then 0 else n.toNat + 1 + (1 - o.size)) w v true w (fun r w' => r = .string (putV v) ∧ w = w') := by
      intro hgo
      have hf : 0 < f := by
        rcases hgo with h | h
        · rcases Nat.eq_zero_or_pos f with h0 | h0
          · subst h0; simp at hk; omega
          · exact h0
        · exact hl h
      obtain ⟨f', rfl⟩ : ∃ f', f = f' + 1 := ⟨f - 1, by omega⟩
      unfold hollowayref1_Put_j1
      rw [e10]
      have em : Int.tmod (k : Int) 10 = ((k % 10 : Nat) : Int) := by rw [Int.tmod_eq_emod_of_nonneg (by omega)]; omega
      have ed : Int.tdiv (k : Int) 10 = ((k / 10 : Nat) : Int) := by rw [Int.tdiv_eq_ediv_of_nonneg (by omega)]; omega
      rw [em, ed, wr_in (x := ((k % 10 : Nat) : Int)) (by omega), wr_in (x := ((k % 10 : Nat) : Int) + 1) (by omega)]
      rw [show Int.toNat ((k % 10 : Nat) : Int) = k % 10 from Int.toNat_natCast _, show Int.toNat (((k % 10 : Nat) : Int) + 1) = k % 10 + 1 by omega, dig_x, bs_app]
      have hlt : k / 10 < 10 ^ f' := by rw [Nat.div_lt_iff_lt_mul (by decide)]; rw [Nat.pow_succ] at hk; exact hk
      have hw64 : IntKind.wrap .u64 ((k / 10 : Nat) : Int) = ((k / 10 : Nat) : Int) := by
        rw [IntKind.wrap_u64]
        have : (10 : Nat) ^ f' ≤ 10 ^ 19 := Nat.pow_le_pow_right (by decide) (by omega)
        omega
      rw [hw64]
      refine brB_t ⟨by decide, by omega, by omega, ?_, ?_, by decide, ⟨k / 10, f', UInt8.ofNat (48 + k % 10) :: l, rfl, hlt, (fun h => by cases h), by simp; omega, ?_, rfl, rfl⟩, ?_⟩
      · have : ((bs [48, 49, 50, 51, 52, 53, 54, 55, 56, 57, 65, 66, 67, 68, 69, 70, 71, 72, 73, 74, 75, 76, 77, 78, 79, 80, 81, 82, 83, 84, 85, 86, 87, 88, 89, 90]).size : Int) = 36 := by decide
        rw [this]; omega
      · rw [hlen, hlen]; show ((1 : Nat) : Int) + _ ≤ _; omega
      · rw [← hd]
        conv => rhs; unfold dg
        rw [if_neg (fun h => by
          rcases hgo with hg | hg
          · omega
          · exact h.2 hg)]
      · have e1 : ¬ ((k : Int) = 0 ∧ (bs l).size ≠ 0) := by
          rintro ⟨h1, h2⟩
          rcases hgo with hg | hg
          · omega
          · rw [hg] at h2; exact h2 rfl
        dsimp only
        rw [if_neg (c := (k : Int) = 0 ∧ (bs l).size ≠ 0) e1, hlen, hlen]
        simp only [List.length_append, List.length_cons, List.length_nil]
        split <;> omega
    refine brB_of (fun hp => ?_) (fun hp => ?_)
    · have hp := of_decide_eq_true hp
      exact step (Or.inl (by omega))
    · have hp := of_decide_eq_false hp
      have hk0 : k = 0 := by omega
      subst hk0
      by_cases hle : l = []
      · subst hle
        rw [show ((bs []).toList == (bs []).toList) = true from by simp]
        exact step (Or.inr rfl)
      · have hne : ((bs l).toList == (bs []).toList) = false := by
          rw [beq_eq_false_iff_ne]
          intro h
          apply hle
          have h1 : (bs l).toList = l := by rw [ByteArray.toList_eq]
          have h2 : (bs []).toList = [] := by rw [ByteArray.toList_eq]
          rw [h1, h2] at h; exact h
        rw [hne]
        unfold hollowayref1_Put_j1
        have hdd : dg 20 (absN v) [] = l := by rw [← hd, dg_zero _ _ hle]
        refine brB_f (brB_of (fun hv => ?_) (fun hv => ?_))
        · have hv := of_decide_eq_true hv
          refine ⟨?_, ?_, rfl⟩
          · rw [hlen, hlen]; show (1 : Int) + _ ≤ _; omega
          · unfold putV; rw [if_pos hv, hdd]
        · have hv := of_decide_eq_false hv
          refine ⟨?_, rfl⟩
          unfold putV; rw [if_neg hv, hdd]
  · have a1 := hu (0 - IntKind.wrap .u64 v)
    have a2 := hu v
    refine brB_of (fun hv => ⟨?_, rfl⟩) (fun hv => ⟨?_, rfl⟩)
    · have hv := of_decide_eq_true hv
      unfold absN; rw [if_pos hv]; omega
    · have hv := of_decide_eq_false hv
      unfold absN; rw [if_neg hv]; omega
end Go.Proofs.YtkjpmkopnkkbmaaGreatDoor
