/- The document's own answers (hollowayref1, hollowayref15). -/
import Derived.Test.YtkjpmkopnkkbmaaJ3
import Derived.Test.YtkjpmkopnkkbmaaJ5
import Derived.Test.YtkjpmkopnkkbmaaJ4
import Derived.Test.YtkjpmkopnkkbmaaJ9

/- The document's own answer to cells and digits (hollowayref1), over the lifted text. -/
set_option maxRecDepth 100000
namespace Go.Proofs.Ytkjpmkopnkkbmaa
open Go.RowKit

/-- A number of 64 bits. -/
def R64 (n : Int) : Prop := -9223372036854775808 ≤ n ∧ n ≤ 9223372036854775807
theorem rflag_any (b : Bool) (w : World) : Calls Try.prog fn_hollowayref1_Flag #[.bool b] w fun e w' => e = .returned (.int .i64 (Cn.flag b)) ∧ w = w' := by
  refine (hollowayref1_Flag_lift (K := fun r w' => r = .int .i64 (Cn.flag b) ∧ w = w') ?_).mono (by rintro e w' ⟨r, rfl, rfl, h⟩; exact ⟨rfl, h⟩)
  unfold hollowayref1_Flag_sh
  exact brB_of (fun h => ⟨by rw [h]; rfl, rfl⟩) (fun h => ⟨by rw [h]; rfl, rfl⟩)
theorem risOne_any (op : Int) (w : World) : Calls Try.prog fn_hollowayref1_IsOne #[.int .i64 op] w fun e w' => e = .returned (.bool (Cn.risOne op)) ∧ w = w' := by
  refine (hollowayref1_IsOne_lift (K := fun r w' => r = .bool (Cn.risOne op) ∧ w = w') ?_).mono (by rintro e w' ⟨r, rfl, rfl, h⟩; exact ⟨rfl, h⟩)
  unfold hollowayref1_IsOne_sh
  repeat' refine brB_of (fun _ => ?_) (fun _ => ?_)
  all_goals
    refine ⟨?_, rfl⟩
    congr 1
    rw [Bool.eq_iff_iff]; unfold Cn.risOne; simp at *; omega
theorem risTwo_any (op : Int) (w : World) : Calls Try.prog fn_hollowayref1_IsTwo #[.int .i64 op] w fun e w' => e = .returned (.bool (Cn.risTwo op)) ∧ w = w' := by
  refine (hollowayref1_IsTwo_lift (K := fun r w' => r = .bool (Cn.risTwo op) ∧ w = w') ?_).mono (by rintro e w' ⟨r, rfl, rfl, h⟩; exact ⟨rfl, h⟩)
  unfold hollowayref1_IsTwo_sh
  repeat' refine brB_of (fun _ => ?_) (fun _ => ?_)
  all_goals
    refine ⟨?_, rfl⟩
    congr 1
    rw [Bool.eq_iff_iff]; unfold Cn.risTwo; simp at *; omega
theorem wr_wrap (x : Int) : wr x = wrap64 x := IntWalk.i64_left x
theorem rone_any (op a : Int) (w : World) : Calls Try.prog fn_hollowayref1_One #[.int .i64 op, .int .i64 a] w fun e w' => e = .returned (.tuple #[.int .i64 (Cn.rone op a), .bool (Cn.isOne op)]) ∧ w = w' := by
  refine (hollowayref1_One_lift (K := fun r w' => r = .tuple #[.int .i64 (Cn.rone op a), .bool (Cn.isOne op)] ∧ w = w') ?_).mono (by rintro e w' ⟨r, rfl, rfl, h⟩; exact ⟨rfl, h⟩)
  unfold hollowayref1_One_sh Cn.rone Cn.isOne
  refine brB_of (fun h => ?_) (fun h => brB_of (fun h2 => ?_) (fun h2 => brB_of (fun h3 => ?_) (fun h3 => brB_of (fun h4 => ?_) (fun h4 => ?_))))
  · have h : op = 16 := by simpa using h
    subst h; refine ⟨?_, rfl⟩; rw [wr_wrap, if_pos rfl, if_pos rfl, show 0 - a = -a by omega]
  · have h : op = 20 := by simpa using h2
    subst h; refine ⟨?_, rfl⟩; rw [wr_wrap]; rfl
  · have h : op = 26 := by simpa using h3
    subst h
    refine (rflag_any _ _).mono ?_
    rintro e w' ⟨rfl, rfl⟩
    exact ⟨_, rfl, rfl, rfl⟩
  · have h : op = 27 := by simpa using h4
    subst h
    refine (rflag_any _ _).mono ?_
    rintro e w' ⟨rfl, rfl⟩
    exact ⟨_, rfl, rfl, rfl⟩
  · have h : op ≠ 16 := by simpa using h
    have h2 : op ≠ 20 := by simpa using h2
    have h3 : op ≠ 26 := by simpa using h3
    have h4 : op ≠ 27 := by simpa using h4
    refine ⟨?_, rfl⟩
    rw [if_neg h, if_neg h2, if_neg h3, if_neg h4, if_neg h, if_neg h2, if_neg h3, if_neg h4]
theorem rfloor_any (a b : Int) (h0 : b ≠ 0) (w : World) : Calls Try.prog fn_hollowayref1_Floor #[.int .i64 a, .int .i64 b] w fun e w' => e = .returned (.tuple #[.int .i64 (Cn.rquo a b), .int .i64 (Cn.rrem a b)]) ∧ w = w' := by
  refine (hollowayref1_Floor_lift (K := fun r w' => r = .tuple #[.int .i64 (Cn.rquo a b), .int .i64 (Cn.rrem a b)] ∧ w = w') ?_).mono (by rintro e w' ⟨r, rfl, rfl, h⟩; exact ⟨rfl, h⟩)
  unfold hollowayref1_Floor_sh
  refine ⟨h0, fun c w' => c = decide (Cn.rodd a b) ∧ w = w', ?_, ?_⟩
  · rintro c w3 ⟨rfl, rfl⟩
    simp only [wr_wrap]
    refine brB_of (fun h => ?_) (fun h => ?_)
    · have h := of_decide_eq_true h
      unfold Cn.rquo Cn.rrem
      rw [if_pos h, if_pos h]; exact ⟨rfl, trivial⟩
    · have h := of_decide_eq_false h
      unfold Cn.rquo Cn.rrem
      rw [if_neg h, if_neg h]; exact ⟨rfl, trivial⟩
  · have hr : wr (a - wr (wr (Int.tdiv a b) * b)) = Cn.rr a b := by unfold Cn.rr; simp only [wr_wrap]
    rw [hr]
    refine brB_of (fun h => ⟨?_, rfl⟩) (fun h => ⟨?_, rfl⟩)
    · have h : Cn.rr a b ≠ 0 := by simpa using h
      unfold Cn.rodd
      by_cases h1 : Cn.rr a b < 0 <;> by_cases h2 : b < 0 <;> simp [h, h1, h2]
    · have h : Cn.rr a b = 0 := by simpa using h
      symm; apply decide_eq_false
      rintro ⟨h1, _⟩; exact h1 h
theorem ret_shl (a : Int) (k : Nat) : IntKind.u64.wrap (IntKind.u64.wrap (a * 2 ^ k) * 2) = IntKind.u64.wrap (a * 2 ^ (k + 1)) := by
  rw [Int.pow_succ]; simp only [IntKind.wrap_u64]; rw [← Int.mul_assoc]; omega
theorem ret_shr (a : Int) (k : Nat) : IntKind.u64.wrap a / 2 ^ k / 2 = IntKind.u64.wrap a / 2 ^ (k + 1) := by
  rw [Int.pow_succ, ← Int.ediv_ediv_of_nonneg (Int.pow_nonneg (by decide))]
theorem u64_range (a : Int) : 0 ≤ IntKind.u64.wrap a ∧ IntKind.u64.wrap a ≤ 18446744073709551615 := by rw [IntKind.wrap_u64]; omega
theorem div_range {x : Int} (k : Nat) (h : 0 ≤ x ∧ x ≤ 18446744073709551615) : 0 ≤ x / 2 ^ k ∧ x / 2 ^ k ≤ 18446744073709551615 := by
  have hp : (0 : Int) < 2 ^ k := Int.pow_pos (by decide)
  refine ⟨Int.ediv_nonneg h.1 (by omega), ?_⟩
  have : x / 2 ^ k ≤ x := Int.ediv_le_self _ h.1
  omega
theorem imin_eq (a b : Int) : imin a b = min a b := by unfold imin; split <;> omega
theorem imax_eq (a b : Int) : imax a b = max a b := by unfold imax; split <;> omega
theorem rtwo_any (op a b : Int) (hb : -9223372036854775808 ≤ b ∧ b ≤ 9223372036854775807) (w : World) : Calls Try.prog fn_hollowayref1_Two #[.int .i64 op, .int .i64 a, .int .i64 b] w fun e w' => e = .returned (.tuple #[.int .i64 (Cn.rtwo op a b), .bool (Cn.isTwo op b)]) ∧ w = w' := by
  refine (hollowayref1_Two_lift (K := fun r w' => r = .tuple #[.int .i64 (Cn.rtwo op a b), .bool (Cn.isTwo op b)] ∧ w = w') ?_).mono (by rintro e w' ⟨r, rfl, rfl, h⟩; exact ⟨rfl, h⟩)
  unfold hollowayref1_Two_sh
  refine (risTwo_any op w).mono ?_
  rintro e w5 ⟨rfl, rfl⟩
  refine ⟨_, rfl, brB_of (fun h0 => ?_) (fun h0 => ?_)⟩
  · refine ⟨?_, rfl⟩
    rw [← Cn.rtwo_none1 a b h0, ← Cn.rtwo_none2 b h0]
  have ne : ∀ {n : Int}, (op == n) = false → op ≠ n := fun h => by simpa using h
  have eq : ∀ {n : Int}, (op == n) = true → op = n := fun h => by simpa using h
  refine brB_of (fun h1 => ?_) (fun h1 => brB_of (fun h2 => ?_) (fun h2 => brB_of (fun h3 => ?_) (fun h3 => ?_)))
  · have := eq h1; subst this; exact ⟨by rw [wr_wrap]; rfl, rfl⟩
  · have := eq h2; subst this; exact ⟨by rw [wr_wrap]; rfl, rfl⟩
  · have := eq h3; subst this; exact ⟨by rw [wr_wrap]; rfl, rfl⟩
  refine ⟨fun c w' => c = decide (op = 14 ∨ op = 15) ∧ w = w', ?_, ?_⟩
  · rintro c w7 ⟨rfl, rfl⟩
    refine brB_of (fun h45 => ?_) (fun h45 => ?_)
    · have h45 := of_decide_eq_true h45
      refine brB_of (fun hz => ?_) (fun hz => ?_)
      · have hz : b = 0 := by simpa using hz
        subst hz
        rcases h45 with rfl | rfl <;> exact ⟨rfl, rfl⟩
      · have hz : b ≠ 0 := by simpa using hz
        refine (rfloor_any a b hz w).mono ?_
        rintro e w10 ⟨rfl, rfl⟩
        refine ⟨_, _, rfl, ?_⟩
        rcases h45 with rfl | rfl
        · refine brB_t ⟨?_, rfl⟩
          unfold Cn.rtwo Cn.isTwo; simp [hz]
        · refine brB_f ⟨?_, rfl⟩
          unfold Cn.rtwo Cn.isTwo; simp [hz]
    · have h45 := of_decide_eq_false h45
      have h4 : (op == 14) = false := by simp; omega
      have h5 : (op == 15) = false := by simp; omega
      refine brB_of (fun h6 => ?_) (fun h6 => brB_of (fun h7 => ?_) (fun h7 => brB_of (fun h8 => ?_) (fun h8 => ?_)))
      · have := eq h6; subst this; exact ⟨rfl, rfl⟩
      · have := eq h7; subst this; exact ⟨rfl, rfl⟩
      · have := eq h8; subst this; exact ⟨rfl, rfl⟩
      refine ⟨fun c w' => c = decide (op = 21 ∨ op = 22) ∧ w = w', ?_, ?_⟩
      · rintro c w13 ⟨rfl, rfl⟩
        refine brB_of (fun hs => ?_) (fun hs => ?_)
        · have hs := of_decide_eq_true hs
          have hres : Cn.rtwo op a b = Cn.rshift op a b ∧ Cn.isTwo op b = true := by rcases hs with rfl | rfl <;> exact ⟨rfl, rfl⟩
          rw [hres.1, hres.2]
          refine ⟨fun c w' => c = decide (b < 0 ∨ 63 < b) ∧ w = w', ?_, ?_⟩
          · rintro c w15 ⟨rfl, rfl⟩
            refine brB_of (fun hz => ⟨?_, rfl⟩) (fun hz => ?_)
            · have hz := of_decide_eq_true hz
              unfold Cn.rshift; rw [if_pos hz]
            · have hz := of_decide_eq_false hz
              obtain ⟨n, rfl⟩ := Int.eq_ofNat_of_zero_le (show 0 ≤ b by omega)
              have hn : n ≤ 63 := by omega
              refine ⟨fun x k w' => ∃ j : Nat, k = j ∧ j ≤ n ∧ x = (if op = 21 then IntKind.u64.wrap (a * 2 ^ j) else IntKind.u64.wrap a / 2 ^ j) ∧ w = w', fun _ k _ => n - k.toNat, ⟨0, rfl, Nat.zero_le _, by simp, rfl⟩, ?_⟩
              rintro x k w17 ⟨j, rfl, hj, rfl, rfl⟩
              refine brB_of (fun hlt => ?_) (fun hlt => ?_)
              · have hlt : j < n := by simpa using hlt
                refine ⟨fun x w' => x = (if op = 21 then IntKind.u64.wrap (a * 2 ^ (j + 1)) else IntKind.u64.wrap a / 2 ^ (j + 1)) ∧ w = w', ?_, ?_⟩
                · rintro x w20 ⟨rfl, rfl⟩
                  rw [wr_in (by omega)]
                  exact ⟨⟨j + 1, by omega, by omega, rfl, rfl⟩, by show n - Int.toNat ((j : Int) + 1) < n - Int.toNat (j : Int); omega⟩
                · refine brB_of (fun h21 => ?_) (fun h21 => ?_)
                  · have h21 := eq h21
                    rw [if_pos h21, if_pos h21]
                    exact ⟨ret_shl a j, rfl⟩
                  · have h21 := ne h21
                    rw [if_neg h21, if_neg h21]
                    refine ⟨by decide, ?_, rfl⟩
                    have hd := div_range j (u64_range a)
                    rw [Int.tdiv_eq_ediv_of_nonneg hd.1, ret_shr]
                    have hd' := div_range (j + 1) (u64_range a)
                    rw [IntKind.wrap_u64]; omega
              · have hlt : j = n := by have : ¬ j < n := by simpa using hlt
                                       omega
                subst hlt
                refine ⟨?_, rfl⟩
                unfold Cn.rshift
                rw [wr_wrap, Int.toNat_natCast]
                by_cases h21 : op = 21
                · rw [if_pos h21, if_neg hz, if_pos h21]
                · rw [if_neg h21, if_neg hz, if_neg h21]
          · refine brB_of (fun hb0 => ⟨?_, rfl⟩) (fun hb0 => ⟨?_, rfl⟩)
            · have hb0 := of_decide_eq_true hb0
              symm; apply decide_eq_true; omega
            · have hb0 := of_decide_eq_false hb0
              rw [Bool.eq_iff_iff]; simp; omega
        · have hs := of_decide_eq_false hs
          have h9 : (op == 21) = false := by simp; omega
          have h10 : (op == 22) = false := by simp; omega
          refine brB_of (fun h11 => ?_) (fun h11 => brB_of (fun h12 => ?_) (fun h12 => brB_of (fun h13 => ?_) (fun h13 => brB_of (fun h14 => ?_) (fun h14 => ?_))))
          · have := eq h11; subst this
            refine (rflag_any _ _).mono ?_
            rintro e w' ⟨rfl, rfl⟩
            exact ⟨_, rfl, rfl, rfl⟩
          · have := eq h12; subst this
            refine (rflag_any _ _).mono ?_
            rintro e w' ⟨rfl, rfl⟩
            exact ⟨_, rfl, rfl, rfl⟩
          · have := eq h13; subst this
            refine (rflag_any _ _).mono ?_
            rintro e w' ⟨rfl, rfl⟩
            exact ⟨_, rfl, rfl, rfl⟩
          · have := eq h14; subst this
            rw [imin_eq]; exact ⟨rfl, rfl⟩
          · have := Cn.rtwo_max h0 h1 h2 h3 h4 h5 h6 h7 h8 h9 h10 h11 h12 h13 h14
            subst this
            rw [imax_eq]; exact ⟨rfl, rfl⟩
      · refine brB_of (fun h21 => ⟨?_, rfl⟩) (fun h21 => ⟨?_, rfl⟩)
        · rw [h21]; have := eq h21; symm; exact decide_eq_true (Or.inl this)
        · have h21 := ne h21
          rw [Bool.eq_iff_iff]; simp; intro h; exact absurd h h21
  · refine brB_of (fun h21 => ⟨?_, rfl⟩) (fun h21 => ⟨?_, rfl⟩)
    · rw [h21]; have := eq h21; symm; exact decide_eq_true (Or.inl this)
    · have h21 := ne h21
      rw [Bool.eq_iff_iff]; simp; intro h; exact absurd h h21
theorem bs_app (l m : List UInt8) : bs l ++ bs m = bs (l ++ m) := by
  apply ByteArray.ext
  rw [ByteArray.data_append]; simp [bs]
theorem dig_x (n : Nat) : ByteArray.extract (bs [48, 49, 50, 51, 52, 53, 54, 55, 56, 57, 65, 66, 67, 68, 69, 70, 71, 72, 73, 74, 75, 76, 77, 78, 79, 80, 81, 82, 83, 84, 85, 86, 87, 88, 89, 90]) (n % 10) (n % 10 + 1) = bs [UInt8.ofNat (48 + n % 10)] := by
  have h : ∀ k : Fin 10, (ByteArray.extract (bs [48, 49, 50, 51, 52, 53, 54, 55, 56, 57, 65, 66, 67, 68, 69, 70, 71, 72, 73, 74, 75, 76, 77, 78, 79, 80, 81, 82, 83, 84, 85, 86, 87, 88, 89, 90]) k.val (k.val + 1)).data.toList = [UInt8.ofNat (48 + k.val)] := by decide +kernel
  apply ByteArray.ext
  apply Array.toList_inj.1
  exact h ⟨n % 10, Nat.mod_lt _ (by decide)⟩
theorem rput_any (v : Int) (w : World) : Calls Try.prog fn_hollowayref1_Put #[.int .i64 v, .int .i64 10] w fun e w' => e = .returned (.string (putV v)) ∧ w = w' := by
  refine (hollowayref1_Put_lift (K := fun r w' => r = .string (putV v) ∧ w = w') ?_).mono (by rintro e w' ⟨r, rfl, rfl, h⟩; exact ⟨rfl, h⟩)
  unfold hollowayref1_Put_sh
  have e10 : IntKind.wrap .u64 10 = 10 := by decide
  have hu : ∀ x : Int, 0 ≤ IntKind.wrap .u64 x ∧ IntKind.wrap .u64 x < 18446744073709551616 := fun x => by rw [IntKind.wrap_u64]; omega
  refine ⟨fun b w' => b = false ∧ w = w', ?_, brB_f ⟨rfl, rfl⟩⟩
  rintro b w3 ⟨rfl, rfl⟩
  refine brB_f ⟨fun n w' => n = (absN v : Int) ∧ w = w', ?_, ?_⟩
  · rintro n w6 ⟨rfl, rfl⟩
    have hN : absN v < 10 ^ 20 := by
      unfold absN
      have := hu (0 - IntKind.wrap .u64 v)
      have := hu v
      split <;> omega
    refine ⟨fun n o w' => ∃ (k f : Nat) (l : List UInt8), n = (k : Int) ∧ k < 10 ^ f ∧ (l = [] → 0 < f) ∧ f + l.length ≤ 20 ∧ dg f k l = dg 20 (absN v) [] ∧ o = bs l ∧ w = w', fun n o _ => if n = 0 ∧ o.size ≠ 0 then 0 else n.toNat + 1 + (1 - o.size), ⟨absN v, 20, [], rfl, hN, (fun _ => by decide), by simp, rfl, rfl, rfl⟩, ?_⟩
    rintro n o w7 ⟨k, f, l, rfl, hk, hl, hfl, hd, rfl, rfl⟩
    have hlen : ∀ l : List UInt8, (bs l).size = l.length := fun _ => rfl
    have step : (0 < k ∨ l = []) → hollowayref1_Put_j1 10 (k : Int) (bs l) (fun n o w' => ∃ (k f : Nat) (l : List UInt8), n = (k : Int) ∧ k < 10 ^ f ∧ (l = [] → 0 < f) ∧ f + l.length ≤ 20 ∧ dg f k l = dg 20 (absN v) [] ∧ o = bs l ∧ w = w') (fun n o _ => if n = 0 ∧ o.size ≠ 0 then 0 else n.toNat + 1 + (1 - o.size)) w v true w (fun r w' => r = .string (putV v) ∧ w = w') := by
      intro hgo
      have hf : 0 < f := by
        rcases hgo with h | h
        · rcases Nat.eq_zero_or_pos f with h0 | h0
          · subst h0; simp at hk; omega
          · exact h0
        · exact hl h
      obtain ⟨f', rfl⟩ : ∃ f', f = f' + 1 := ⟨f - 1, by omega⟩
      unfold hollowayref1_Put_j1
      rw [e10]
      have em : Int.tmod (k : Int) 10 = ((k % 10 : Nat) : Int) := by rw [Int.tmod_eq_emod_of_nonneg (by omega)]; omega
      have ed : Int.tdiv (k : Int) 10 = ((k / 10 : Nat) : Int) := by rw [Int.tdiv_eq_ediv_of_nonneg (by omega)]; omega
      rw [em, ed, wr_in (x := ((k % 10 : Nat) : Int)) (by omega), wr_in (x := ((k % 10 : Nat) : Int) + 1) (by omega)]
      rw [show Int.toNat ((k % 10 : Nat) : Int) = k % 10 from Int.toNat_natCast _, show Int.toNat (((k % 10 : Nat) : Int) + 1) = k % 10 + 1 by omega, dig_x, bs_app]
      have hlt : k / 10 < 10 ^ f' := by rw [Nat.div_lt_iff_lt_mul (by decide)]; rw [Nat.pow_succ] at hk; exact hk
      have hw64 : IntKind.wrap .u64 ((k / 10 : Nat) : Int) = ((k / 10 : Nat) : Int) := by
        rw [IntKind.wrap_u64]
        have : (10 : Nat) ^ f' ≤ 10 ^ 19 := Nat.pow_le_pow_right (by decide) (by omega)
        omega
      rw [hw64]
      refine brB_t ⟨by decide, by omega, by omega, ?_, ?_, by decide, ⟨k / 10, f', UInt8.ofNat (48 + k % 10) :: l, rfl, hlt, (fun h => by cases h), by simp; omega, ?_, rfl, rfl⟩, ?_⟩
      · have : ((bs [48, 49, 50, 51, 52, 53, 54, 55, 56, 57, 65, 66, 67, 68, 69, 70, 71, 72, 73, 74, 75, 76, 77, 78, 79, 80, 81, 82, 83, 84, 85, 86, 87, 88, 89, 90]).size : Int) = 36 := by decide
        rw [this]; omega
      · rw [hlen, hlen]; show ((1 : Nat) : Int) + _ ≤ _; omega
      · rw [← hd]
        conv => rhs; unfold dg
        rw [if_neg (fun h => by
          rcases hgo with hg | hg
          · omega
          · exact h.2 hg)]
      · have e1 : ¬ ((k : Int) = 0 ∧ (bs l).size ≠ 0) := by
          rintro ⟨h1, h2⟩
          rcases hgo with hg | hg
          · omega
          · rw [hg] at h2; exact h2 rfl
        dsimp only
        rw [if_neg (c := (k : Int) = 0 ∧ (bs l).size ≠ 0) e1, hlen, hlen]
        simp only [List.length_append, List.length_cons, List.length_nil]
        split <;> omega
    refine brB_of (fun hp => ?_) (fun hp => ?_)
    · have hp := of_decide_eq_true hp
      exact step (Or.inl (by omega))
    · have hp := of_decide_eq_false hp
      have hk0 : k = 0 := by omega
      subst hk0
      by_cases hle : l = []
      · subst hle
        rw [show ((bs []).toList == (bs []).toList) = true from by simp]
        exact step (Or.inr rfl)
      · have hne : ((bs l).toList == (bs []).toList) = false := by
          rw [beq_eq_false_iff_ne]
          intro h
          apply hle
          have h1 : (bs l).toList = l := by rw [ByteArray.toList_eq]
          have h2 : (bs []).toList = [] := by rw [ByteArray.toList_eq]
          rw [h1, h2] at h; exact h
        rw [hne]
        unfold hollowayref1_Put_j1
        have hdd : dg 20 (absN v) [] = l := by rw [← hd, dg_zero _ _ hle]
        refine brB_f (brB_of (fun hv => ?_) (fun hv => ?_))
        · have hv := of_decide_eq_true hv
          refine ⟨?_, ?_, rfl⟩
          · rw [hlen, hlen]; show (1 : Int) + _ ≤ _; omega
          · unfold putV; rw [if_pos hv, hdd]
        · have hv := of_decide_eq_false hv
          refine ⟨?_, rfl⟩
          unfold putV; rw [if_neg hv, hdd]
  · have a1 := hu (0 - IntKind.wrap .u64 v)
    have a2 := hu v
    refine brB_of (fun hv => ⟨?_, rfl⟩) (fun hv => ⟨?_, rfl⟩)
    · have hv := of_decide_eq_true hv
      unfold absN; rw [if_pos hv]; omega
    · have hv := of_decide_eq_false hv
      unfold absN; rw [if_neg hv]; omega
end Go.Proofs.Ytkjpmkopnkkbmaa

/- The document's own answer to traces (hollowayref15): what is named, which traces may be. -/
set_option maxRecDepth 100000
namespace Go.Proofs.Ytkjpmkopnkkbmaa
open Go.RowKit

theorem rgives_any (op : Int) (w : World) : Calls Try.prog fn_hollowayref15_Gives #[.int .i64 op] w fun e w' => e = .returned (.bool (givesV op)) ∧ w = w' := by
  refine (hollowayref15_Gives_lift (K := fun r w' => r = .bool (givesV op) ∧ w = w') ?_).mono (by rintro e w' ⟨r, rfl, rfl, h⟩; exact ⟨rfl, h⟩)
  unfold hollowayref15_Gives_sh
  repeat' refine brB_of (fun _ => ?_) (fun _ => ?_)
  all_goals
    refine ⟨?_, rfl⟩
    congr 1
    rw [Bool.eq_iff_iff]; unfold givesV; simp at *; omega
theorem within_any (x m : Int) (w : World) : Calls Try.prog fn_hollowayref15_within #[.int .i64 x, .int .i64 m] w fun e w' => e = .returned (.bool (decide (0 ≤ x ∧ x ≤ m))) ∧ w = w' := by
  refine (hollowayref15_within_lift (K := fun r w' => r = .bool (decide (0 ≤ x ∧ x ≤ m)) ∧ w = w') ?_).mono (by rintro e w' ⟨r, rfl, rfl, h⟩; exact ⟨rfl, h⟩)
  unfold hollowayref15_within_sh
  refine brB_of (fun h => ?_) (fun h => ?_)
  all_goals
    refine ⟨?_, rfl⟩
    congr 1
    rw [Bool.eq_iff_iff]; simp at *; omega
/-- A literal of one number, of two. -/
theorem lit1 {w w' : World} {b : Nat} (x : Int) (hb : b = w.heap.size) (hw : w' = World.alloc w (.cells #[.int .i64 x] T_int)) : Ow intE w' ⟨some ⟨b, 0, none⟩, 1, 1⟩ [x] ∧ Chg No w w' := by
  rw [hw, hb]
  exact ⟨Ow.lit (E := intE) w [x] [.int .i64 x] rfl (by show 1 ≤ maxLen; unfold maxLen; omega), Chg.alloc _ _ _⟩
theorem lit2 {w w' : World} {b : Nat} (x y : Int) (hb : b = w.heap.size) (hw : w' = World.alloc w (.cells #[.int .i64 x, .int .i64 y] T_int)) : Ow intE w' ⟨some ⟨b, 0, none⟩, 2, 2⟩ [x, y] ∧ Chg No w w' := by
  rw [hw, hb]
  exact ⟨Ow.lit (E := intE) w [x, y] [.int .i64 x, .int .i64 y] rfl (by show 2 ≤ maxLen; unfold maxLen; omega), Chg.alloc _ _ _⟩
/-- A list that is new. -/
def NewI (w w' : World) (r : Value) (xs : List Int) : Prop := ∃ s : Sl, r = s.val ∧ Ow intE w' s xs ∧ Chg No w w' ∧ ∀ k, s.blk = some k → w.heap.size ≤ k
theorem NewI.one {w0 w w' : World} {b : Nat} {x : Int} (c : Chg No w0 w) (hb : b = w.heap.size) (hw : w' = World.alloc w (.cells #[.int .i64 x] T_int)) : NewI w0 w' (.slice (some ⟨b, 0, none⟩) 1 1) [x] := by
  obtain ⟨h1, h2⟩ := lit1 x hb hw
  have := c.size
  exact ⟨⟨some ⟨b, 0, none⟩, 1, 1⟩, rfl, h1, trN c h2, fun k hk => by have : b = k := Option.some.inj hk; omega⟩
theorem NewI.two {w0 w w' : World} {b : Nat} {x y : Int} (c : Chg No w0 w) (hb : b = w.heap.size) (hw : w' = World.alloc w (.cells #[.int .i64 x, .int .i64 y] T_int)) : NewI w0 w' (.slice (some ⟨b, 0, none⟩) 2 2) [x, y] := by
  obtain ⟨h1, h2⟩ := lit2 x y hb hw
  have := c.size
  exact ⟨⟨some ⟨b, 0, none⟩, 2, 2⟩, rfl, h1, trN c h2, fun k hk => by have : b = k := Option.some.inj hk; omega⟩
theorem NewI.nil {w w' : World} (c : Chg No w w') : NewI w w' (.slice none 0 0) [] := ⟨nilS, rfl, Ow.nil _ _, c, fun k hk => by cases hk⟩
theorem ruses_any (i : In5) (w : World) : Calls Try.prog fn_hollowayref15_Uses #[.agg (insC i).toArray] w fun e w' => ∃ r, e = .returned r ∧ NewI w w' r (usesV i) := by
  refine (hollowayref15_Uses_lift (K := fun r w' => NewI w w' r (usesV i)) ?_).mono (by rintro e w' ⟨r, rfl, h⟩; exact ⟨r, rfl, h⟩)
  unfold hollowayref15_Uses_sh
  intro b6 w7 hb6 hw7
  have o7 : Ob w7 b6 (insC i) T_api_Ins := by rw [hw7, hb6]; exact Ob.new w (insC i) T_api_Ins
  have c7 := al hw7
  have eqb : ∀ {n : Int}, (i.a == n) = true → i.a = n := fun h => by simpa using h
  have neb : ∀ {n : Int}, (i.a == n) = false → i.a ≠ n := fun h => by simpa using h
  refine ⟨i.a, o7.cell rfl, brB_of (fun h4 => ?_) (fun h4 => ?_)⟩
  · have h4 := eqb h4
    refine ⟨i.b, o7.cell rfl, (risTwo_any i.b w7).mono ?_⟩
    rintro e w11 ⟨rfl, rfl⟩
    refine ⟨_, rfl, brB_of (fun h2 => ?_) (fun h2 => ?_)⟩
    · have hu : usesV i = [i.c, i.d] := by unfold usesV; rw [if_pos h4, if_pos h2]
      rw [hu]
      exact ⟨i.c, o7.cell rfl, i.d, o7.cell rfl, fun b15 w16 hb hw => NewI.two c7 hb hw⟩
    · have hu : usesV i = [i.c] := by unfold usesV; rw [if_pos h4, if_neg (by rw [h2]; decide)]
      rw [hu]
      exact ⟨i.c, o7.cell rfl, fun b15 w16 hb hw => NewI.one c7 hb hw⟩
  · have h4 := neb h4
    refine ⟨fun b w' => b = decide (i.a = 5 ∨ i.a = 7 ∨ i.a = 8 ∨ i.a = 10 ∨ i.a = 11) ∧ w' = w7, ?_, ?_⟩
    · rintro b w20 ⟨rfl, rfl⟩
      refine brB_of (fun h5 => ?_) (fun h5 => ?_)
      · have h5 := of_decide_eq_true h5
        have hu : usesV i = [i.c] := by unfold usesV; rw [if_neg h4, if_pos h5]
        rw [hu]
        exact ⟨i.c, o7.cell rfl, fun b15 w16 hb hw => NewI.one c7 hb hw⟩
      · have h5 := of_decide_eq_false h5
        refine ⟨fun b w' => b = decide (i.a = 6 ∨ i.a = 9) ∧ w' = w20, ?_, ?_⟩
        · rintro b w25 ⟨rfl, rfl⟩
          refine brB_of (fun h6 => ?_) (fun h6 => ?_)
          · have h6 := of_decide_eq_true h6
            have hu : usesV i = [i.c, i.d] := by unfold usesV; rw [if_neg h4, if_neg h5, if_pos h6]
            rw [hu]
            exact ⟨i.c, o7.cell rfl, i.d, o7.cell rfl, fun b15 w16 hb hw => NewI.two c7 hb hw⟩
          · have h6 := of_decide_eq_false h6
            have hu : usesV i = [] := by unfold usesV; rw [if_neg h4, if_neg h5, if_neg h6]
            rw [hu]
            exact NewI.nil c7
        · refine brB_of (fun h => ⟨?_, rfl⟩) (fun h => ⟨?_, rfl⟩)
          all_goals rw [Bool.eq_iff_iff]; simp at *; omega
    · refine brB_of (fun h => ⟨?_, rfl⟩) (fun h => brB_of (fun h => ⟨?_, rfl⟩) (fun h => brB_of (fun h => ⟨?_, rfl⟩) (fun h => brB_of (fun h => ⟨?_, rfl⟩) (fun h => ⟨?_, rfl⟩))))
      all_goals rw [Bool.eq_iff_iff]; simp at *; omega
theorem routs_any (i : In5) (w : World) : Calls Try.prog fn_hollowayref15_Outs #[.agg (insC i).toArray] w fun e w' => ∃ r, e = .returned r ∧ NewI w w' r (outsV i) := by
  refine (hollowayref15_Outs_lift (K := fun r w' => NewI w w' r (outsV i)) ?_).mono (by rintro e w' ⟨r, rfl, h⟩; exact ⟨r, rfl, h⟩)
  unfold hollowayref15_Outs_sh
  intro b6 w7 hb6 hw7
  have o7 : Ob w7 b6 (insC i) T_api_Ins := by rw [hw7, hb6]; exact Ob.new w (insC i) T_api_Ins
  have c7 := al hw7
  have eqb : ∀ {n : Int}, (i.a == n) = true → i.a = n := fun h => by simpa using h
  have neb : ∀ {n : Int}, (i.a == n) = false → i.a ≠ n := fun h => by simpa using h
  refine ⟨i.a, o7.cell rfl, brB_of (fun h4 => ?_) (fun h4 => ?_)⟩
  · have h4 := eqb h4
    refine ⟨fun b w' => b = decide (i.b = 14 ∨ i.b = 15) ∧ w' = w7, ?_, ?_⟩
    · rintro b w11 ⟨rfl, rfl⟩
      refine brB_of (fun h5 => ?_) (fun h5 => ?_)
      · have h5 := of_decide_eq_true h5
        have hu : outsV i = [i.e] := by unfold outsV; rw [if_pos h4, if_pos h5]
        rw [hu]
        exact ⟨i.e, o7.cell rfl, fun b15 w16 hb hw => NewI.one c7 hb hw⟩
      · have h5 := of_decide_eq_false h5
        have hu : outsV i = [] := by unfold outsV; rw [if_pos h4, if_neg h5]
        rw [hu]
        exact NewI.nil c7
    · refine ⟨i.b, o7.cell rfl, brB_of (fun h => ⟨?_, rfl⟩) (fun h => ⟨i.b, o7.cell rfl, ?_, rfl⟩)⟩
      all_goals rw [Bool.eq_iff_iff]; simp at *; omega
  · have h4 := neb h4
    refine ⟨fun b w' => b = decide (i.a = 5 ∨ i.a = 7 ∨ i.a = 8 ∨ i.a = 9 ∨ i.a = 10 ∨ i.a = 11) ∧ w' = w7, ?_, ?_⟩
    · rintro b w20 ⟨rfl, rfl⟩
      refine brB_of (fun h5 => ?_) (fun h5 => ?_)
      · have h5 := of_decide_eq_true h5
        have hu : outsV i = [i.e] := by unfold outsV; rw [if_neg h4, if_pos h5]
        rw [hu]
        exact ⟨i.e, o7.cell rfl, fun b15 w16 hb hw => NewI.one c7 hb hw⟩
      · have h5 := of_decide_eq_false h5
        refine brB_of (fun h6 => ?_) (fun h6 => ?_)
        · have hu : outsV i = [i.e, i.b] := by unfold outsV; rw [if_neg h4, if_neg h5, if_pos (eqb h6)]
          rw [hu]
          exact ⟨i.e, o7.cell rfl, i.b, o7.cell rfl, fun b15 w16 hb hw => NewI.two c7 hb hw⟩
        · have hu : outsV i = [] := by unfold outsV; rw [if_neg h4, if_neg h5, if_neg (neb h6)]
          rw [hu]
          exact NewI.nil c7
    · refine brB_of (fun h => ⟨?_, rfl⟩) (fun h => brB_of (fun h => ⟨?_, rfl⟩) (fun h => brB_of (fun h => ⟨?_, rfl⟩) (fun h => brB_of (fun h => ⟨?_, rfl⟩) (fun h => brB_of (fun h => ⟨?_, rfl⟩) (fun h => ⟨?_, rfl⟩)))))
      all_goals rw [Bool.eq_iff_iff]; simp at *; omega
theorem insAt_get {t : TrG} {k : Nat} {i : In5} (h : t.ins[k]? = some i) : insAt t (k : Int) = i := by
  unfold insAt; rw [List.getD_eq_getElem?_getD, Int.toNat_natCast, h]; rfl
theorem insAt_ix {t : TrG} {p : Int} (h0 : 0 ≤ p) (h1 : p < t.ins.length) : t.ins[p.toNat]? = some (insAt t p) := by
  unfold insAt; rw [List.getD_eq_getElem?_getD, List.getElem?_eq_getElem (by omega)]; rfl
theorem outAt_ix {t : TrG} {p : Int} (h0 : 0 ≤ p) (h1 : p < t.outs.length) : t.outs[p.toNat]? = some (outAt t p) := by
  unfold outAt; rw [List.getD_eq_getElem?_getD, List.getElem?_eq_getElem (by omega)]; rfl
theorem rnamed_any {D : Nat → Prop} {w : World} (t : TrP) {v : TrG} (ht : TrIs D w t v) {l : Sl} {xs : List Int} (hl : Rd intE w l xs) {k : Nat} (hk : k ≤ v.ins.length) :
    Calls Try.prog fn_hollowayref15_named #[.agg (trP t).toArray, l.val, .int .i64 (k : Int)] w fun e w' => ∃ b : Bool, e = .returned (.bool b) ∧ (b = true ↔ NamedV v xs k) ∧ Chg No w w' := by
  refine (hollowayref15_named_lift (K := fun r w' => ∃ b : Bool, r = .bool b ∧ (b = true ↔ NamedV v xs k) ∧ Chg No w w') ?_).mono (by rintro e w' ⟨r, rfl, b, rfl, h⟩; exact ⟨b, rfl, h⟩)
  unfold hollowayref15_named_sh
  intro b12 w13 hb12 hw13
  have o13 : Ob w13 b12 (trP t) T_api_Trace := by rw [hw13, hb12]; exact Ob.new w (trP t) T_api_Trace
  have c13 := al hw13
  have hll := hl.len
  have hcap := hl.capL
  have hil := ht.ins.len
  refine ⟨fun n w' => ∃ j : Nat, n = j ∧ j ≤ xs.length ∧ NamedV v (xs.take j) k ∧ Chg No w13 w', fun n _ => xs.length - n.toNat, ⟨0, rfl, Nat.zero_le _, (fun p hp => by simp at hp), Chg.refl _ _⟩, ?_⟩
  rintro n w14 ⟨j, rfl, hj, hn, c14⟩
  refine brB_of (fun hlt => ?_) (fun hlt => ?_)
  · have hlt : j < xs.length := by simp at hlt; omega
    obtain ⟨x, hx⟩ : ∃ x, xs[j]? = some x := ⟨_, List.getElem?_eq_getElem hlt⟩
    have k14 := trN c13 c14
    refine ⟨fun b w' => (b = false ↔ (0 ≤ x ∧ x < k ∧ givesV (insAt v x).a = true)) ∧ Chg No w14 w', ?_, ?_⟩
    · rintro b w29 ⟨hb, c29⟩
      refine brB_of (fun ht' => ?_) (fun hf => ?_)
      · refine ⟨false, rfl, ⟨(fun h => by cases h), fun h => ?_⟩, trN k14 c29⟩
        have := hb.2 (h x (List.mem_of_getElem? hx))
        rw [this] at ht'; cases ht'
      · rw [wr_in (by omega)]
        refine ⟨⟨j + 1, by omega, by omega, fun p hp => ?_, trN c14 c29⟩, by show xs.length - Int.toNat ((j : Int) + 1) < xs.length - Int.toNat (j : Int); omega⟩
        rw [List.take_add_one, hx] at hp
        rcases List.mem_append.1 hp with hp | hp
        · exact hn p hp
        · have : p = x := by simpa using hp
          rw [this]; exact hb.1 hf
    · intro w16 hw16
      have c16 := dw hw16
      have k16 := trN k14 c16
      have hl16 := hl.no k16
      have o16 := (o13.no c14).no c16
      have ix : ∀ {G : Addr → Prop}, (∀ a, held (Lw w16) (Addr.add a (Int.toNat (j : Int) * 1)) (.int .i64 x) → G a) → ∃ a : Addr, l.ptr = some a ∧ 0 ≤ (j : Int) ∧ (j : Int) < (l.len : Int) ∧ G a := fun kk =>
        hl16.ix (i := (j : Int)) (by omega) (by rw [Int.toNat_natCast]; exact hx) fun a _ hcell => kk a (by
          have q := hcell 0 _ rfl
          rw [add0] at q; exact held_Lw q)
      refine ix fun a q1 => ⟨x, q1, brB_of (fun h0 => ?_) (fun h0 => ?_)⟩
      · have h0 := of_decide_eq_true h0
        exact ⟨⟨(fun h => by cases h), fun h => by omega⟩, c16⟩
      have h0 := of_decide_eq_false h0
      refine ix fun a q1 => ⟨x, q1, brB_of (fun h1 => ?_) (fun h1 => ?_)⟩
      · have h1 := of_decide_eq_true h1
        exact ⟨⟨(fun h => by cases h), fun h => by omega⟩, c16⟩
      have h1 := of_decide_eq_false h1
      refine ⟨t.ins, held_Lw (o16.cell rfl), ix fun a q1 => ⟨x, q1, ?_⟩⟩
      refine (ht.ins.no k16).ix (i := x) (by omega) (insAt_ix (by omega) (by omega)) fun a' _ hcell' => ?_
      have q2 := hcell' 0 _ rfl
      rw [add0] at q2
      refine ⟨_, held_Lw q2, (rgives_any _ _).mono ?_⟩
      rintro e w27 ⟨rfl, rfl⟩
      refine ⟨_, rfl, ⟨fun h => ⟨by omega, by omega, by simpa using h⟩, fun h => by rw [h.2.2]; rfl⟩, c16⟩
  · have hlt : j = xs.length := by simp at hlt; omega
    subst hlt
    rw [List.take_length] at hn
    exact ⟨true, rfl, ⟨fun _ => hn, fun _ => rfl⟩, trN c13 c14⟩
theorem rout_any {D : Nat → Prop} {w : World} (t : TrP) {v : TrG} (ht : TrIs D w t v) (x : Int) {k : Nat} (hk : k ≤ v.ins.length) :
    Calls Try.prog fn_hollowayref15_out #[.agg (trP t).toArray, .int .i64 x, .int .i64 (k : Int)] w fun e w' => ∃ b : Bool, e = .returned (.bool b) ∧ (b = true ↔ OutV v x k) ∧ Chg No w w' := by
  refine (hollowayref15_out_lift (K := fun r w' => ∃ b : Bool, r = .bool b ∧ (b = true ↔ OutV v x k) ∧ Chg No w w') ?_).mono (by rintro e w' ⟨r, rfl, b, rfl, h⟩; exact ⟨b, rfl, h⟩)
  unfold hollowayref15_out_sh
  intro b12 w13 hb12 hw13 w14 hw14
  have o13 : Ob w13 b12 (trP t) T_api_Trace := by rw [hw13, hb12]; exact Ob.new w (trP t) T_api_Trace
  have c13 := al hw13
  have c14 := dw hw14
  have o14 := o13.no c14
  have k14 := trN c13 c14
  have hd : ∀ {j : Nat} {u : Value}, (trP t)[j]? = some u → held (fun w' => Chg No w14 w') ⟨b12, j, none⟩ u := fun h => Ob.held (fun w' c => o14.no c) h
  obtain ⟨os, hos, hov⟩ := ht.outs
  have hol := hos.len
  have hovl := hov.1
  refine ⟨fun w' => Chg No w14 w', Chg.refl _ _, brB_of (fun h0 => ?_) (fun h0 => ⟨false, rfl, ⟨(fun h => by cases h), fun h => ?_⟩, k14⟩)⟩
  rotate_left
  · have h0 := of_decide_eq_false h0
    exact absurd h.1 h0
  have h0 := of_decide_eq_true h0
  refine ⟨t.outs, hd rfl, brB_of (fun h1 => ?_) (fun h1 => ⟨false, rfl, ⟨(fun h => by cases h), fun h => ?_⟩, k14⟩)⟩
  rotate_left
  · have h1 := of_decide_eq_false h1
    have := h.2.1
    omega
  have h1 := of_decide_eq_true h1
  have hxl : x < v.outs.length := by omega
  obtain ⟨o, ho⟩ : ∃ o, os[x.toNat]? = some o := ⟨_, List.getElem?_eq_getElem (by omega)⟩
  obtain ⟨_, _, u3, u4, _, _⟩ := hov.2 _ _ _ ho (outAt_ix h0 hxl)
  have ix : ∀ {j : Nat} {u : Value} {G : Addr → Prop}, (ouC o)[j]? = some u → (∀ a, held (fun w' => Chg No w14 w') (Addr.add (Addr.add a (Int.toNat x * 4)) j) u → G a) → ∃ a : Addr, t.outs.ptr = some a ∧ 0 ≤ x ∧ x < (t.outs.len : Int) ∧ G a := fun hj kk =>
    (hos.no k14).ix h0 ho fun a ha hcell => kk a fun w' c => by
      obtain ⟨a2, ha2, hc2⟩ := ((hos.no k14).no c).at ho
      rw [ha] at ha2; cases ha2
      exact hc2 _ _ hj
  refine ⟨_, _, _, _, _, _, _, _, _, hd rfl, hd rfl, hd rfl, hd rfl, hd rfl, hd rfl, hd rfl, hd rfl, hd rfl, t.outs, hd rfl, ix (j := 2) rfl fun a q => ⟨o.stack, q, ?_⟩⟩
  refine (rnamed_any t (ht.no k14) (u3.no k14) hk).mono ?_
  rintro e w30 ⟨b, rfl, hb, c30⟩
  refine ⟨b, rfl, c30, brB_of (fun hbt => ?_) (fun hbf => ⟨false, rfl, ⟨fun h => (by cases h), fun h => ?_⟩, trN k14 c30⟩)⟩
  rotate_left
  · have := hb.2 h.2.2.1
    rw [this] at hbf; cases hbf
  refine ⟨_, _, _, _, _, _, _, _, _, hd rfl, hd rfl, hd rfl, hd rfl, hd rfl, hd rfl, hd rfl, hd rfl, hd rfl, t.outs, hd rfl, ix (j := 3) rfl fun a q => ⟨o.back, q, ?_⟩⟩
  refine (rnamed_any t (ht.no (trN k14 c30)) (u4.no (trN k14 c30)) hk).mono ?_
  rintro e w45 ⟨b2, rfl, hb2, c45⟩
  exact ⟨b2, rfl, b2, rfl, ⟨fun h => ⟨h0, hxl, hb.1 hbt, hb2.1 h⟩, fun h => hb2.2 h.2.2.2⟩, trN (trN k14 c30) c45⟩
end Go.Proofs.Ytkjpmkopnkkbmaa

/- The document's own answer to traces (hollowayref15): which traces may be. -/
set_option maxRecDepth 100000
namespace Go.Proofs.Ytkjpmkopnkkbmaa
open Go.RowKit

/-- An instruction may be, its exits aside. -/
def EachA (t : TrG) (k : Nat) (i : In5) : Prop :=
  (1 ≤ i.a ∧ i.a ≤ 12) ∧ (i.a = 4 → Cn.risTwo i.b = true ∨ Cn.risOne i.b = true) ∧ (i.a = 2 → 0 ≤ i.b ∧ i.b ≤ t.slots - 1) ∧ (i.a = 3 → 0 ≤ i.b ∧ i.b ≤ t.backs - 1) ∧ NamedV t (usesV i) k
theorem wi_no {x m : Int} (h : (!decide (0 ≤ x ∧ x ≤ m)) = true) : ¬ (0 ≤ x ∧ x ≤ m) := by rw [Bool.not_eq_true'] at h; exact of_decide_eq_false h
theorem wi_yes {x m : Int} (h : (!decide (0 ≤ x ∧ x ≤ m)) = false) : 0 ≤ x ∧ x ≤ m := by rw [Bool.not_eq_false'] at h; exact of_decide_eq_true h
theorem eachV_iff {t : TrG} {k : Nat} {i : In5} : EachV t k i ↔ EachA t k i ∧ ∀ x ∈ outsV i, OutV t x k :=
  ⟨fun ⟨a, b, c, d, e, f⟩ => ⟨⟨a, b, c, d, e⟩, f⟩, fun ⟨⟨a, b, c, d, e⟩, f⟩ => ⟨a, b, c, d, e, f⟩⟩
theorem rright_any {D : Nat → Prop} {w : World} (t : TrP) {v : TrG} (ht : TrIs D w t v) :
    Calls Try.prog fn_hollowayref15_Right #[.agg (trP t).toArray] w fun e w' => ∃ b : Bool, e = .returned (.bool b) ∧ (b = true ↔ RightV v) ∧ Chg No w w' := by
  refine (hollowayref15_Right_lift (K := fun r w' => ∃ b : Bool, r = .bool b ∧ (b = true ↔ RightV v) ∧ Chg No w w') ?_).mono (by rintro e w' ⟨r, rfl, b, rfl, h⟩; exact ⟨b, rfl, h⟩)
  unfold hollowayref15_Right_sh
  intro b10 w11 hb10 hw11
  have o11 : Ob w11 b10 (trP t) T_api_Trace := by rw [hw11, hb10]; exact Ob.new w (trP t) T_api_Trace
  have c11 := al hw11
  have hil := ht.ins.len
  have hic := ht.ins.capL
  obtain ⟨os, hos, hov⟩ := ht.outs
  have hol := hos.len
  have hoc := hos.capL
  have hovl := hov.1
  have hcl := ht.cells.len
  have hcc := ht.cells.capL
  obtain ⟨n1, n2, n3, n4, n5, n6⟩ := ht.nums
  have no : ∀ {w' : World}, Chg No w w' → ¬ RightV v → ∃ b : Bool, Value.bool false = .bool b ∧ (b = true ↔ RightV v) ∧ Chg No w w' := fun c h => ⟨false, rfl, ⟨(fun h => by cases h), fun h' => absurd h' h⟩, c⟩
  refine ⟨fun b w' => (b = false ↔ HeadV v) ∧ Chg No w11 w', ?_, ?_⟩
  · rintro b w34 ⟨hb, c34⟩
    have k34 := trN c11 c34
    refine brB_of (fun hbt => no k34 fun h => ?_) (fun hbf => ?_)
    · rw [hb.2 h.head] at hbt; cases hbt
    have hhead := hb.1 hbf
    obtain ⟨q1, q2, q3, q4, q5, q6, q7⟩ := hhead
    refine ⟨fun n w' => ∃ k : Nat, n = k ∧ k ≤ v.ins.length ∧ (∀ (j : Nat) (i : In5), j < k → v.ins[j]? = some i → EachV v j i) ∧ Chg No w11 w', fun n _ => v.ins.length - n.toNat, ⟨0, rfl, Nat.zero_le _, fun j i h => by omega, c34⟩, ?_⟩
    rintro n w36 ⟨k, rfl, hk, hall, c36⟩
    have k36 := trN c11 c36
    have o36 := o11.no c36
    refine ⟨t.ins, o36.cell rfl, brB_of (fun hlt => ?_) (fun hlt => ?_)⟩
    · have hlt : k < v.ins.length := by simp at hlt; omega
      obtain ⟨i, hiv⟩ : ∃ i, v.ins[k]? = some i := ⟨_, List.getElem?_eq_getElem hlt⟩
      refine ⟨t.ins, o36.cell rfl, (ht.ins.no k36).ix (i := (k : Int)) (by omega) (by rw [Int.toNat_natCast]; exact hiv) fun a _ hcell => ?_⟩
      have g0 := hcell 0 _ rfl
      rw [add0] at g0
      refine ⟨_, _, _, _, _, g0, hcell 1 _ rfl, hcell 2 _ rfl, hcell 3 _ rfl, hcell 4 _ rfl, ?_⟩
      intro b46 w47 hb46 hw47
      have hn := fun (w2 : World) => newOb (w2 := w2) (T := T_api_Ins) (insC ⟨0, 0, 0, 0, 0⟩) (insC i) rfl hb46 hw47
      refine ⟨(hn w47).1, fun w48 hw48 => ?_⟩
      obtain ⟨o48, c48⟩ := (hn w48).2 hw48
      have k48 := trN k36 c48
      have z46 : b46 < w48.heap.size := o48.lt
      refine ⟨fun b w' => (b = false ↔ EachA v k i) ∧ Chg No w48 w', ?_, ?_⟩
      · rintro b w356 ⟨hb, c356⟩
        have k356 := trN k48 c356
        refine brB_of (fun hbt => no k356 fun h => ?_) (fun hbf => ?_)
        · rw [hb.2 (eachV_iff.1 (h.each k i hiv)).1] at hbt; cases hbt
        have hA := hb.1 hbf
        have o356 := o48.no c356
        refine ⟨_, _, _, _, _, o356.cell rfl, o356.cell rfl, o356.cell rfl, o356.cell rfl, o356.cell rfl, (routs_any i w356).mono ?_⟩
        rintro e w364 ⟨r, rfl, s365, rfl, g365, c364, _⟩
        have hsl := g365.rd.len
        have hsc := g365.rd.capL
        refine ⟨s365, rfl, fun n w' => ∃ j : Nat, n = j ∧ j ≤ (outsV i).length ∧ (∀ x ∈ (outsV i).take j, OutV v x k) ∧ Chg No w364 w', fun n _ => (outsV i).length - n.toNat, ⟨0, rfl, Nat.zero_le _, fun x hx => by simp at hx, Chg.refl _ _⟩, ?_⟩
        rintro n w366 ⟨j, rfl, hj, hout, c366⟩
        have k366 := trN (trN k356 c364) c366
        refine brB_of (fun hlt2 => ?_) (fun hlt2 => ?_)
        · have hlt2 : j < (outsV i).length := by simp at hlt2; omega
          obtain ⟨x, hx⟩ : ∃ x, (outsV i)[j]? = some x := ⟨_, List.getElem?_eq_getElem hlt2⟩
          intro w368 hw368
          have c368 := dw hw368
          have k368 := trN k366 c368
          have o368 := o11.no (trN (trN (trN (trN (trN c36 c48) c356) c364) c366) c368)
          refine ⟨_, _, _, _, _, _, _, _, _, held_Lw (o368.cell rfl), held_Lw (o368.cell rfl), held_Lw (o368.cell rfl), held_Lw (o368.cell rfl), held_Lw (o368.cell rfl), held_Lw (o368.cell rfl), held_Lw (o368.cell rfl), held_Lw (o368.cell rfl), held_Lw (o368.cell rfl), ?_⟩
          refine ((g365.no c366).no c368).rd.ix (i := (j : Int)) (by omega) (by rw [Int.toNat_natCast]; exact hx) fun a _ hcell' => ?_
          have q1 := hcell' 0 _ rfl
          rw [add0] at q1
          refine ⟨x, held_Lw q1, (rout_any t (ht.no k368) x (by omega)).mono ?_⟩
          rintro e w381 ⟨b2, rfl, hb2, c381⟩
          refine ⟨b2, rfl, brB_of (fun hn => no (trN k368 c381) fun h => ?_) (fun hn => ?_)⟩
          · have := hb2.2 ((h.each k i hiv).2.2.2.2.2 x (List.mem_of_getElem? hx))
            rw [this] at hn; cases hn
          · have hn : b2 = true := by simpa using hn
            rw [wr_in (by omega)]
            refine ⟨⟨j + 1, by omega, by omega, fun y hy => ?_, trN (trN c366 c368) c381⟩, by show (outsV i).length - Int.toNat ((j : Int) + 1) < (outsV i).length - Int.toNat (j : Int); omega⟩
            rw [List.take_add_one, hx] at hy
            rcases List.mem_append.1 hy with hy | hy
            · exact hout y hy
            · have : y = x := by simpa using hy
              rw [this]; exact hb2.1 hn
        · have hlt2 : j = (outsV i).length := by simp at hlt2; omega
          subst hlt2
          rw [List.take_length] at hout
          rw [wr_in (by omega)]
          refine ⟨⟨k + 1, by omega, by omega, fun j i' hj hi' => ?_, trN (trN (trN (trN c36 c48) c356) c364) c366⟩, by show v.ins.length - Int.toNat ((k : Int) + 1) < v.ins.length - Int.toNat (k : Int); omega⟩
          by_cases hjk : j = k
          · subst hjk
            rw [hiv] at hi'; cases hi'
            exact eachV_iff.2 ⟨hA, hout⟩
          · exact hall j i' (by omega) hi'
      · intro w49 hw49
        have c49 := dw hw49
        have k49 := trN k48 c49
        have o49 := o48.no c49
        have ot49 := (o36.no c48).no c49
        have hd : ∀ {j : Nat} {u : Value}, (trP t)[j]? = some u → held (fun w' => Chg No w49 w') ⟨b10, j, none⟩ u := fun h => Ob.held (fun w' c => ot49.no c) h
        have hi : ∀ {j : Nat} {u : Value}, (insC i)[j]? = some u → held (fun w' => Chg No w49 w') ⟨b46, j, none⟩ u := fun h => Ob.held (fun w' c => o49.no c) h
        have eqb : ∀ {n : Int}, (i.a == n) = true → i.a = n := fun h => by simpa using h
        have neb : ∀ {n : Int}, (i.a == n) = false → i.a ≠ n := fun h => by simpa using h
        have bad : ¬ EachA v k i → (true = false ↔ EachA v k i) ∧ Chg No w48 w49 := fun h => ⟨⟨(fun h => by cases h), fun h' => absurd h' h⟩, c49⟩
        refine ⟨fun w' => Chg No w49 w', Chg.refl _ _, _, hi rfl, brB_of (fun ha => bad fun h => ?_) (fun ha => ?_)⟩
        · have ha := of_decide_eq_true ha
          have := h.1.1; omega
        have ha := of_decide_eq_false ha
        refine ⟨_, hi rfl, brB_of (fun hb => bad fun h => ?_) (fun hb => ?_)⟩
        · have hb := of_decide_eq_true hb
          have := h.1.2; omega
        have hb := of_decide_eq_false hb
        have h12 : 1 ≤ i.a ∧ i.a ≤ 12 := by omega
        refine ⟨_, hi rfl, brB_of (fun h4 => ?_) (fun h4 => ?_)⟩
        · have h4 := eqb h4
          refine ⟨_, hi rfl, (risTwo_any _ _).mono ?_⟩
          rintro e w56 ⟨rfl, rfl⟩
          refine ⟨_, rfl, Chg.refl _ _, brB_of (fun h5 => ?_) (fun h5 => ?_)⟩
          · have h5 : Cn.risTwo i.b = false := by simpa using h5
            refine ⟨_, hi rfl, (risOne_any _ _).mono ?_⟩
            rintro e w60 ⟨rfl, rfl⟩
            refine ⟨_, rfl, Chg.refl _ _, brB_of (fun h6 => bad fun h => ?_) (fun h6 => ?_)⟩
            · have h6 : Cn.risOne i.b = false := by simpa using h6
              rcases h.2.1 h4 with h' | h'
              · rw [h5] at h'; cases h'
              · rw [h6] at h'; cases h'
            have hop : i.a = 4 → Cn.risTwo i.b = true ∨ Cn.risOne i.b = true := fun _ => Or.inr (by simpa using h6)
            refine ⟨_, hi rfl, brB_of (fun h2 => ?_) (fun h2 => ?_)⟩
            · have h2 := eqb h2
              refine ⟨_, hi rfl, _, hd rfl, ?_⟩
              rw [ht.nums.2.1, wr_in (x := v.slots - 1) (by omega)]
              refine (within_any _ _ _).mono ?_
              rintro e w60 ⟨rfl, rfl⟩
              refine ⟨_, rfl, Chg.refl _ _, brB_of (fun hw => bad fun h => ?_) (fun hw => ?_)⟩
              · have hw : ¬ (0 ≤ i.b ∧ i.b ≤ v.slots - 1) := wi_no hw
                exact hw (h.2.2.1 h2)
              have hsl : i.a = 2 → 0 ≤ i.b ∧ i.b ≤ v.slots - 1 := fun _ => by simpa using hw
              refine ⟨_, hi rfl, brB_of (fun h3 => ?_) (fun h3 => ?_)⟩
              · have h3 := eqb h3
                refine ⟨_, hi rfl, _, hd rfl, ?_⟩
                rw [ht.nums.2.2.1, wr_in (x := v.backs - 1) (by omega)]
                refine (within_any _ _ _).mono ?_
                rintro e w66 ⟨rfl, rfl⟩
                refine ⟨_, rfl, Chg.refl _ _, brB_of (fun hw => bad fun h => ?_) (fun hw => ?_)⟩
                · have hw : ¬ (0 ≤ i.b ∧ i.b ≤ v.backs - 1) := wi_no hw
                  exact hw (h.2.2.2.1 h3)
                have hbk : i.a = 3 → 0 ≤ i.b ∧ i.b ≤ v.backs - 1 := fun _ => by simpa using hw
                refine ⟨_, _, _, _, _, _, _, _, _, hd rfl, hd rfl, hd rfl, hd rfl, hd rfl, hd rfl, hd rfl, hd rfl, hd rfl, _, _, _, _, _, hi rfl, hi rfl, hi rfl, hi rfl, hi rfl, (ruses_any i w49).mono ?_⟩
                rintro e w89 ⟨r, rfl, s90, rfl, g90, c89, _⟩
                refine ⟨s90, rfl, c89, (rnamed_any t (ht.no (trN k49 c89)) g90.rd (by omega)).mono ?_⟩
                rintro e w92 ⟨b, rfl, hb, c92⟩
                exact ⟨b, rfl, ⟨fun h => ⟨h12, hop, hsl, hbk, hb.1 (by simpa using h)⟩, fun h => by rw [hb.2 h.2.2.2.2]; rfl⟩, trN c49 (trN c89 c92)⟩
              have h3 := neb h3
              have hbk : i.a = 3 → 0 ≤ i.b ∧ i.b ≤ v.backs - 1 := fun h => absurd h h3
              refine ⟨_, _, _, _, _, _, _, _, _, hd rfl, hd rfl, hd rfl, hd rfl, hd rfl, hd rfl, hd rfl, hd rfl, hd rfl, _, _, _, _, _, hi rfl, hi rfl, hi rfl, hi rfl, hi rfl, (ruses_any i w49).mono ?_⟩
              rintro e w89 ⟨r, rfl, s90, rfl, g90, c89, _⟩
              refine ⟨s90, rfl, c89, (rnamed_any t (ht.no (trN k49 c89)) g90.rd (by omega)).mono ?_⟩
              rintro e w92 ⟨b, rfl, hb, c92⟩
              exact ⟨b, rfl, ⟨fun h => ⟨h12, hop, hsl, hbk, hb.1 (by simpa using h)⟩, fun h => by rw [hb.2 h.2.2.2.2]; rfl⟩, trN c49 (trN c89 c92)⟩
            have h2 := neb h2
            have hsl : i.a = 2 → 0 ≤ i.b ∧ i.b ≤ v.slots - 1 := fun h => absurd h h2
            refine ⟨_, hi rfl, brB_of (fun h3 => ?_) (fun h3 => ?_)⟩
            · have h3 := eqb h3
              refine ⟨_, hi rfl, _, hd rfl, ?_⟩
              rw [ht.nums.2.2.1, wr_in (x := v.backs - 1) (by omega)]
              refine (within_any _ _ _).mono ?_
              rintro e w66 ⟨rfl, rfl⟩
              refine ⟨_, rfl, Chg.refl _ _, brB_of (fun hw => bad fun h => ?_) (fun hw => ?_)⟩
              · have hw : ¬ (0 ≤ i.b ∧ i.b ≤ v.backs - 1) := wi_no hw
                exact hw (h.2.2.2.1 h3)
              have hbk : i.a = 3 → 0 ≤ i.b ∧ i.b ≤ v.backs - 1 := fun _ => by simpa using hw
              refine ⟨_, _, _, _, _, _, _, _, _, hd rfl, hd rfl, hd rfl, hd rfl, hd rfl, hd rfl, hd rfl, hd rfl, hd rfl, _, _, _, _, _, hi rfl, hi rfl, hi rfl, hi rfl, hi rfl, (ruses_any i w49).mono ?_⟩
              rintro e w89 ⟨r, rfl, s90, rfl, g90, c89, _⟩
              refine ⟨s90, rfl, c89, (rnamed_any t (ht.no (trN k49 c89)) g90.rd (by omega)).mono ?_⟩
              rintro e w92 ⟨b, rfl, hb, c92⟩
              exact ⟨b, rfl, ⟨fun h => ⟨h12, hop, hsl, hbk, hb.1 (by simpa using h)⟩, fun h => by rw [hb.2 h.2.2.2.2]; rfl⟩, trN c49 (trN c89 c92)⟩
            have h3 := neb h3
            have hbk : i.a = 3 → 0 ≤ i.b ∧ i.b ≤ v.backs - 1 := fun h => absurd h h3
            refine ⟨_, _, _, _, _, _, _, _, _, hd rfl, hd rfl, hd rfl, hd rfl, hd rfl, hd rfl, hd rfl, hd rfl, hd rfl, _, _, _, _, _, hi rfl, hi rfl, hi rfl, hi rfl, hi rfl, (ruses_any i w49).mono ?_⟩
            rintro e w89 ⟨r, rfl, s90, rfl, g90, c89, _⟩
            refine ⟨s90, rfl, c89, (rnamed_any t (ht.no (trN k49 c89)) g90.rd (by omega)).mono ?_⟩
            rintro e w92 ⟨b, rfl, hb, c92⟩
            exact ⟨b, rfl, ⟨fun h => ⟨h12, hop, hsl, hbk, hb.1 (by simpa using h)⟩, fun h => by rw [hb.2 h.2.2.2.2]; rfl⟩, trN c49 (trN c89 c92)⟩
          · have hop : i.a = 4 → Cn.risTwo i.b = true ∨ Cn.risOne i.b = true := fun _ => Or.inl (by simpa using h5)
            refine ⟨_, hi rfl, brB_of (fun h2 => ?_) (fun h2 => ?_)⟩
            · have h2 := eqb h2
              refine ⟨_, hi rfl, _, hd rfl, ?_⟩
              rw [ht.nums.2.1, wr_in (x := v.slots - 1) (by omega)]
              refine (within_any _ _ _).mono ?_
              rintro e w60 ⟨rfl, rfl⟩
              refine ⟨_, rfl, Chg.refl _ _, brB_of (fun hw => bad fun h => ?_) (fun hw => ?_)⟩
              · have hw : ¬ (0 ≤ i.b ∧ i.b ≤ v.slots - 1) := wi_no hw
                exact hw (h.2.2.1 h2)
              have hsl : i.a = 2 → 0 ≤ i.b ∧ i.b ≤ v.slots - 1 := fun _ => by simpa using hw
              refine ⟨_, hi rfl, brB_of (fun h3 => ?_) (fun h3 => ?_)⟩
              · have h3 := eqb h3
                refine ⟨_, hi rfl, _, hd rfl, ?_⟩
                rw [ht.nums.2.2.1, wr_in (x := v.backs - 1) (by omega)]
                refine (within_any _ _ _).mono ?_
                rintro e w66 ⟨rfl, rfl⟩
                refine ⟨_, rfl, Chg.refl _ _, brB_of (fun hw => bad fun h => ?_) (fun hw => ?_)⟩
                · have hw : ¬ (0 ≤ i.b ∧ i.b ≤ v.backs - 1) := wi_no hw
                  exact hw (h.2.2.2.1 h3)
                have hbk : i.a = 3 → 0 ≤ i.b ∧ i.b ≤ v.backs - 1 := fun _ => by simpa using hw
                refine ⟨_, _, _, _, _, _, _, _, _, hd rfl, hd rfl, hd rfl, hd rfl, hd rfl, hd rfl, hd rfl, hd rfl, hd rfl, _, _, _, _, _, hi rfl, hi rfl, hi rfl, hi rfl, hi rfl, (ruses_any i w49).mono ?_⟩
                rintro e w89 ⟨r, rfl, s90, rfl, g90, c89, _⟩
                refine ⟨s90, rfl, c89, (rnamed_any t (ht.no (trN k49 c89)) g90.rd (by omega)).mono ?_⟩
                rintro e w92 ⟨b, rfl, hb, c92⟩
                exact ⟨b, rfl, ⟨fun h => ⟨h12, hop, hsl, hbk, hb.1 (by simpa using h)⟩, fun h => by rw [hb.2 h.2.2.2.2]; rfl⟩, trN c49 (trN c89 c92)⟩
              have h3 := neb h3
              have hbk : i.a = 3 → 0 ≤ i.b ∧ i.b ≤ v.backs - 1 := fun h => absurd h h3
              refine ⟨_, _, _, _, _, _, _, _, _, hd rfl, hd rfl, hd rfl, hd rfl, hd rfl, hd rfl, hd rfl, hd rfl, hd rfl, _, _, _, _, _, hi rfl, hi rfl, hi rfl, hi rfl, hi rfl, (ruses_any i w49).mono ?_⟩
              rintro e w89 ⟨r, rfl, s90, rfl, g90, c89, _⟩
              refine ⟨s90, rfl, c89, (rnamed_any t (ht.no (trN k49 c89)) g90.rd (by omega)).mono ?_⟩
              rintro e w92 ⟨b, rfl, hb, c92⟩
              exact ⟨b, rfl, ⟨fun h => ⟨h12, hop, hsl, hbk, hb.1 (by simpa using h)⟩, fun h => by rw [hb.2 h.2.2.2.2]; rfl⟩, trN c49 (trN c89 c92)⟩
            have h2 := neb h2
            have hsl : i.a = 2 → 0 ≤ i.b ∧ i.b ≤ v.slots - 1 := fun h => absurd h h2
            refine ⟨_, hi rfl, brB_of (fun h3 => ?_) (fun h3 => ?_)⟩
            · have h3 := eqb h3
              refine ⟨_, hi rfl, _, hd rfl, ?_⟩
              rw [ht.nums.2.2.1, wr_in (x := v.backs - 1) (by omega)]
              refine (within_any _ _ _).mono ?_
              rintro e w66 ⟨rfl, rfl⟩
              refine ⟨_, rfl, Chg.refl _ _, brB_of (fun hw => bad fun h => ?_) (fun hw => ?_)⟩
              · have hw : ¬ (0 ≤ i.b ∧ i.b ≤ v.backs - 1) := wi_no hw
                exact hw (h.2.2.2.1 h3)
              have hbk : i.a = 3 → 0 ≤ i.b ∧ i.b ≤ v.backs - 1 := fun _ => by simpa using hw
              refine ⟨_, _, _, _, _, _, _, _, _, hd rfl, hd rfl, hd rfl, hd rfl, hd rfl, hd rfl, hd rfl, hd rfl, hd rfl, _, _, _, _, _, hi rfl, hi rfl, hi rfl, hi rfl, hi rfl, (ruses_any i w49).mono ?_⟩
              rintro e w89 ⟨r, rfl, s90, rfl, g90, c89, _⟩
              refine ⟨s90, rfl, c89, (rnamed_any t (ht.no (trN k49 c89)) g90.rd (by omega)).mono ?_⟩
              rintro e w92 ⟨b, rfl, hb, c92⟩
              exact ⟨b, rfl, ⟨fun h => ⟨h12, hop, hsl, hbk, hb.1 (by simpa using h)⟩, fun h => by rw [hb.2 h.2.2.2.2]; rfl⟩, trN c49 (trN c89 c92)⟩
            have h3 := neb h3
            have hbk : i.a = 3 → 0 ≤ i.b ∧ i.b ≤ v.backs - 1 := fun h => absurd h h3
            refine ⟨_, _, _, _, _, _, _, _, _, hd rfl, hd rfl, hd rfl, hd rfl, hd rfl, hd rfl, hd rfl, hd rfl, hd rfl, _, _, _, _, _, hi rfl, hi rfl, hi rfl, hi rfl, hi rfl, (ruses_any i w49).mono ?_⟩
            rintro e w89 ⟨r, rfl, s90, rfl, g90, c89, _⟩
            refine ⟨s90, rfl, c89, (rnamed_any t (ht.no (trN k49 c89)) g90.rd (by omega)).mono ?_⟩
            rintro e w92 ⟨b, rfl, hb, c92⟩
            exact ⟨b, rfl, ⟨fun h => ⟨h12, hop, hsl, hbk, hb.1 (by simpa using h)⟩, fun h => by rw [hb.2 h.2.2.2.2]; rfl⟩, trN c49 (trN c89 c92)⟩
        · have h4 := neb h4
          have hop : i.a = 4 → Cn.risTwo i.b = true ∨ Cn.risOne i.b = true := fun h => absurd h h4
          refine ⟨_, hi rfl, brB_of (fun h2 => ?_) (fun h2 => ?_)⟩
          · have h2 := eqb h2
            refine ⟨_, hi rfl, _, hd rfl, ?_⟩
            rw [ht.nums.2.1, wr_in (x := v.slots - 1) (by omega)]
            refine (within_any _ _ _).mono ?_
            rintro e w60 ⟨rfl, rfl⟩
            refine ⟨_, rfl, Chg.refl _ _, brB_of (fun hw => bad fun h => ?_) (fun hw => ?_)⟩
            · have hw : ¬ (0 ≤ i.b ∧ i.b ≤ v.slots - 1) := wi_no hw
              exact hw (h.2.2.1 h2)
            have hsl : i.a = 2 → 0 ≤ i.b ∧ i.b ≤ v.slots - 1 := fun _ => by simpa using hw
            refine ⟨_, hi rfl, brB_of (fun h3 => ?_) (fun h3 => ?_)⟩
            · have h3 := eqb h3
              refine ⟨_, hi rfl, _, hd rfl, ?_⟩
              rw [ht.nums.2.2.1, wr_in (x := v.backs - 1) (by omega)]
              refine (within_any _ _ _).mono ?_
              rintro e w66 ⟨rfl, rfl⟩
              refine ⟨_, rfl, Chg.refl _ _, brB_of (fun hw => bad fun h => ?_) (fun hw => ?_)⟩
              · have hw : ¬ (0 ≤ i.b ∧ i.b ≤ v.backs - 1) := wi_no hw
                exact hw (h.2.2.2.1 h3)
              have hbk : i.a = 3 → 0 ≤ i.b ∧ i.b ≤ v.backs - 1 := fun _ => by simpa using hw
              refine ⟨_, _, _, _, _, _, _, _, _, hd rfl, hd rfl, hd rfl, hd rfl, hd rfl, hd rfl, hd rfl, hd rfl, hd rfl, _, _, _, _, _, hi rfl, hi rfl, hi rfl, hi rfl, hi rfl, (ruses_any i w49).mono ?_⟩
              rintro e w89 ⟨r, rfl, s90, rfl, g90, c89, _⟩
              refine ⟨s90, rfl, c89, (rnamed_any t (ht.no (trN k49 c89)) g90.rd (by omega)).mono ?_⟩
              rintro e w92 ⟨b, rfl, hb, c92⟩
              exact ⟨b, rfl, ⟨fun h => ⟨h12, hop, hsl, hbk, hb.1 (by simpa using h)⟩, fun h => by rw [hb.2 h.2.2.2.2]; rfl⟩, trN c49 (trN c89 c92)⟩
            have h3 := neb h3
            have hbk : i.a = 3 → 0 ≤ i.b ∧ i.b ≤ v.backs - 1 := fun h => absurd h h3
            refine ⟨_, _, _, _, _, _, _, _, _, hd rfl, hd rfl, hd rfl, hd rfl, hd rfl, hd rfl, hd rfl, hd rfl, hd rfl, _, _, _, _, _, hi rfl, hi rfl, hi rfl, hi rfl, hi rfl, (ruses_any i w49).mono ?_⟩
            rintro e w89 ⟨r, rfl, s90, rfl, g90, c89, _⟩
            refine ⟨s90, rfl, c89, (rnamed_any t (ht.no (trN k49 c89)) g90.rd (by omega)).mono ?_⟩
            rintro e w92 ⟨b, rfl, hb, c92⟩
            exact ⟨b, rfl, ⟨fun h => ⟨h12, hop, hsl, hbk, hb.1 (by simpa using h)⟩, fun h => by rw [hb.2 h.2.2.2.2]; rfl⟩, trN c49 (trN c89 c92)⟩
          have h2 := neb h2
          have hsl : i.a = 2 → 0 ≤ i.b ∧ i.b ≤ v.slots - 1 := fun h => absurd h h2
          refine ⟨_, hi rfl, brB_of (fun h3 => ?_) (fun h3 => ?_)⟩
          · have h3 := eqb h3
            refine ⟨_, hi rfl, _, hd rfl, ?_⟩
            rw [ht.nums.2.2.1, wr_in (x := v.backs - 1) (by omega)]
            refine (within_any _ _ _).mono ?_
            rintro e w66 ⟨rfl, rfl⟩
            refine ⟨_, rfl, Chg.refl _ _, brB_of (fun hw => bad fun h => ?_) (fun hw => ?_)⟩
            · have hw : ¬ (0 ≤ i.b ∧ i.b ≤ v.backs - 1) := wi_no hw
              exact hw (h.2.2.2.1 h3)
            have hbk : i.a = 3 → 0 ≤ i.b ∧ i.b ≤ v.backs - 1 := fun _ => by simpa using hw
            refine ⟨_, _, _, _, _, _, _, _, _, hd rfl, hd rfl, hd rfl, hd rfl, hd rfl, hd rfl, hd rfl, hd rfl, hd rfl, _, _, _, _, _, hi rfl, hi rfl, hi rfl, hi rfl, hi rfl, (ruses_any i w49).mono ?_⟩
            rintro e w89 ⟨r, rfl, s90, rfl, g90, c89, _⟩
            refine ⟨s90, rfl, c89, (rnamed_any t (ht.no (trN k49 c89)) g90.rd (by omega)).mono ?_⟩
            rintro e w92 ⟨b, rfl, hb, c92⟩
            exact ⟨b, rfl, ⟨fun h => ⟨h12, hop, hsl, hbk, hb.1 (by simpa using h)⟩, fun h => by rw [hb.2 h.2.2.2.2]; rfl⟩, trN c49 (trN c89 c92)⟩
          have h3 := neb h3
          have hbk : i.a = 3 → 0 ≤ i.b ∧ i.b ≤ v.backs - 1 := fun h => absurd h h3
          refine ⟨_, _, _, _, _, _, _, _, _, hd rfl, hd rfl, hd rfl, hd rfl, hd rfl, hd rfl, hd rfl, hd rfl, hd rfl, _, _, _, _, _, hi rfl, hi rfl, hi rfl, hi rfl, hi rfl, (ruses_any i w49).mono ?_⟩
          rintro e w89 ⟨r, rfl, s90, rfl, g90, c89, _⟩
          refine ⟨s90, rfl, c89, (rnamed_any t (ht.no (trN k49 c89)) g90.rd (by omega)).mono ?_⟩
          rintro e w92 ⟨b, rfl, hb, c92⟩
          exact ⟨b, rfl, ⟨fun h => ⟨h12, hop, hsl, hbk, hb.1 (by simpa using h)⟩, fun h => by rw [hb.2 h.2.2.2.2]; rfl⟩, trN c49 (trN c89 c92)⟩
    · have hlt : k = v.ins.length := by simp at hlt; omega
      subst hlt
      refine ⟨fun n w' => ∃ k : Nat, n = k ∧ k ≤ v.outs.length ∧ (∀ (j : Nat) (o : OuV), j < k → v.outs[j]? = some o → ExitV v o) ∧ Chg No w11 w', fun n _ => v.outs.length - n.toNat, ⟨0, rfl, Nat.zero_le _, fun j i h => by omega, c36⟩, ?_⟩
      rintro n w383 ⟨k, rfl, hk, hexit, c383⟩
      have k383 := trN c11 c383
      have o383 := o11.no c383
      refine ⟨t.outs, o383.cell rfl, brB_of (fun hlt => ?_) (fun hlt => ?_)⟩
      · have hlt : k < v.outs.length := by simp at hlt; omega
        obtain ⟨o, ho⟩ : ∃ o, os[k]? = some o := ⟨_, List.getElem?_eq_getElem (by omega)⟩
        obtain ⟨ov, hovk⟩ : ∃ o, v.outs[k]? = some o := ⟨_, List.getElem?_eq_getElem hlt⟩
        obtain ⟨u1, u2, u3, u4, _, _⟩ := hov.2 _ _ _ ho hovk
        refine ⟨t.outs, o383.cell rfl, (hos.no k383).ix (i := (k : Int)) (by omega) (by rw [Int.toNat_natCast]; exact ho) fun a _ hcell => ?_⟩
        have g0 := hcell 0 _ rfl
        rw [add0] at g0
        refine ⟨_, _, _, _, g0, hcell 1 _ rfl, hcell 2 _ rfl, hcell 3 _ rfl, ?_⟩
        intro b392 w393 hb392 hw393
        have hn := fun (w2 : World) => newOb (w2 := w2) (T := T_api_Out) (ouC ⟨0, 0, nilS, nilS⟩) (ouC o) rfl hb392 hw393
        refine ⟨(hn w393).1, fun w394 hw394 => ?_⟩
        obtain ⟨o394, c394⟩ := (hn w394).2 hw394
        have ot := o383.no c394
        have k394 := trN k383 c394
        have l3 := u3.len
        have l4 := u4.len
        refine ⟨fun b w' => (b = false ↔ ExitV v ov) ∧ Chg No w394 w', ?_, ?_⟩
        · rintro b w409 ⟨hb, c409⟩
          refine brB_of (fun hbt => no (trN k394 c409) fun h => ?_) (fun hbf => ?_)
          · rw [hb.2 (h.exits k ov hovk)] at hbt; cases hbt
          rw [wr_in (by omega)]
          refine ⟨⟨k + 1, by omega, by omega, fun j o' hj ho' => ?_, trN (trN c383 c394) c409⟩, by show v.outs.length - Int.toNat ((k : Int) + 1) < v.outs.length - Int.toNat (k : Int); omega⟩
          by_cases hjk : j = k
          · subst hjk
            rw [hovk] at ho'; cases ho'
            exact hb.1 hbf
          · exact hexit j o' (by omega) ho'
        · have bad : ¬ ExitV v ov → (true = false ↔ ExitV v ov) ∧ Chg No w394 w394 := fun h => ⟨⟨(fun h => by cases h), fun h' => absurd h' h⟩, Chg.refl _ _⟩
          refine ⟨o.steps, o394.cell rfl, (within_any _ _ _).mono ?_⟩
          rintro e w397 ⟨rfl, rfl⟩
          refine ⟨_, rfl, brB_of (fun hw => bad fun h => ?_) (fun hw => ?_)⟩
          · have hw : ¬ (0 ≤ o.steps ∧ o.steps ≤ 120) := wi_no hw
            rw [u2] at hw; exact hw h.1
          have hw1 : 0 ≤ o.steps ∧ o.steps ≤ 120 := by simpa using hw
          refine ⟨o.ip, o394.cell rfl, (within_any _ _ _).mono ?_⟩
          rintro e w401 ⟨rfl, rfl⟩
          refine ⟨_, rfl, brB_of (fun hw => bad fun h => ?_) (fun hw => ?_)⟩
          · have hw : ¬ (0 ≤ o.ip ∧ o.ip ≤ 2999) := wi_no hw
            rw [u1] at hw; exact hw h.2.1
          have hw2 : 0 ≤ o.ip ∧ o.ip ≤ 2999 := by simpa using hw
          refine ⟨o.stack, o394.cell rfl, t.slots, ot.cell rfl, t.grow, ot.cell rfl, ?_⟩
          rw [wr_in (x := t.slots + t.grow) (by omega)]
          refine brB_of (fun hw => bad fun h => ?_) (fun hw => ?_)
          · have hw := of_decide_eq_true hw
            have := h.2.2.1
            omega
          have hw3 := of_decide_eq_false hw
          refine ⟨o.back, o394.cell rfl, t.backs, ot.cell rfl, t.growBack, ot.cell rfl, ?_⟩
          rw [wr_in (x := t.backs + t.growBack) (by omega)]
          refine ⟨⟨fun h => ⟨by omega, by omega, by omega, ?_⟩, fun h => ?_⟩, Chg.refl _ _⟩
          · have := of_decide_eq_false h
            omega
          · apply decide_eq_false
            have := h.2.2.2
            omega
      · have hlt : k = v.outs.length := by simp at hlt; omega
        subst hlt
        refine ⟨fun n w' => ∃ k : Nat, n = k ∧ k ≤ v.cells.length ∧ (∀ (j : Nat) (c : Int), j < k → v.cells[j]? = some c → (0 ≤ c ∧ c ≤ 2999) ∧ ∀ (m : Nat) (d : Int), j = m + 1 → v.cells[m]? = some d → d < c) ∧ Chg No w11 w', fun n _ => v.cells.length - n.toNat, ⟨0, rfl, Nat.zero_le _, fun j i h => by omega, c383⟩, ?_⟩
        rintro n w411 ⟨k, rfl, hk, hcell, c411⟩
        have k411 := trN c11 c411
        have o411 := o11.no c411
        refine ⟨t.cells, o411.cell rfl, brB_of (fun hlt => ?_) (fun hlt => ?_)⟩
        · have hlt : k < v.cells.length := by simp at hlt; omega
          obtain ⟨c, hc⟩ : ∃ c, v.cells[k]? = some c := ⟨_, List.getElem?_eq_getElem hlt⟩
          refine ⟨fun b w' => (b = false ↔ (0 ≤ c ∧ c ≤ 2999) ∧ ∀ (m : Nat) (d : Int), k = m + 1 → v.cells[m]? = some d → d < c) ∧ Chg No w411 w', ?_, ?_⟩
          · rintro b w428 ⟨hb, c428⟩
            refine brB_of (fun hbt => no (trN k411 c428) fun h => ?_) (fun hbf => ?_)
            · rw [hb.2 (h.cells k c hc)] at hbt; cases hbt
            rw [wr_in (by omega)]
            refine ⟨⟨k + 1, by omega, by omega, fun j c' hj hc' => ?_, trN c411 c428⟩, by show v.cells.length - Int.toNat ((k : Int) + 1) < v.cells.length - Int.toNat (k : Int); omega⟩
            by_cases hjk : j = k
            · subst hjk
              rw [hc] at hc'; cases hc'
              exact hb.1 hbf
            · exact hcell j c' (by omega) hc'
          · intro w414 hw414
            have c414 := dw hw414
            have k414 := trN k411 c414
            have o414 := o411.no c414
            have hd : ∀ {j : Nat} {u : Value}, (trP t)[j]? = some u → held (fun w' => Chg No w414 w') ⟨b10, j, none⟩ u := fun h => Ob.held (fun w' c => o414.no c) h
            have ix : ∀ {j : Nat} {x : Int} {G : Addr → Prop}, v.cells[j]? = some x → (∀ a, held (fun w' => Chg No w414 w') (Addr.add a (Int.toNat (j : Int) * 1)) (.int .i64 x) → G a) → ∃ a : Addr, t.cells.ptr = some a ∧ 0 ≤ (j : Int) ∧ (j : Int) < (t.cells.len : Int) ∧ G a := fun hj kk =>
              (ht.cells.no k414).ix (i := (_ : Nat)) (by omega) (by rw [Int.toNat_natCast]; exact hj) fun a ha hcell => kk a fun w' c => by
                obtain ⟨a2, ha2, hc2⟩ := ((ht.cells.no k414).no c).at hj
                rw [ha] at ha2; cases ha2
                have q := hc2 0 _ rfl
                rw [add0] at q; exact q
            refine ⟨fun w' => Chg No w414 w', Chg.refl _ _, t.cells, hd rfl, ix hc fun a q => ⟨c, q, (within_any _ _ _).mono ?_⟩⟩
            rintro e w420 ⟨rfl, rfl⟩
            refine ⟨_, rfl, Chg.refl _ _, brB_of (fun hw => ⟨⟨(fun h => by cases h), fun h => ?_⟩, c414⟩) (fun hw => ?_)⟩
            · have hw : ¬ (0 ≤ c ∧ c ≤ 2999) := wi_no hw
              exact absurd h.1 hw
            have hw : 0 ≤ c ∧ c ≤ 2999 := by simpa using hw
            refine brB_of (fun hk0 => ?_) (fun hk0 => ⟨⟨fun _ => ⟨hw, fun m d hm _ => ?_⟩, fun _ => rfl⟩, c414⟩)
            · have hk0 : 0 < k := by have := of_decide_eq_true hk0; omega
              obtain ⟨m, rfl⟩ : ∃ m, k = m + 1 := ⟨k - 1, by omega⟩
              obtain ⟨d, hdd⟩ : ∃ d, v.cells[m]? = some d := ⟨_, List.getElem?_eq_getElem (by omega)⟩
              rw [show wr (((m + 1 : Nat) : Int) - 1) = (m : Int) by rw [wr_in (by omega)]; omega]
              refine ⟨t.cells, hd rfl, ix hdd fun a q => ⟨d, q, t.cells, hd rfl, ix hc fun a q => ⟨c, q, ⟨fun h => ⟨hw, fun m' d' hm hd' => ?_⟩, fun h => ?_⟩, c414⟩⟩⟩
              · have := of_decide_eq_false h
                obtain rfl : m = m' := by omega
                rw [hdd] at hd'; cases hd'
                omega
              · apply decide_eq_false
                have := h.2 m d rfl hdd
                omega
            · have := of_decide_eq_false hk0
              omega
        · have hlt : k = v.cells.length := by simp at hlt; omega
          subst hlt
          refine ⟨_, _, _, _, _, _, _, _, _, o411.cell rfl, o411.cell rfl, o411.cell rfl, o411.cell rfl, o411.cell rfl, o411.cell rfl, o411.cell rfl, o411.cell rfl, o411.cell rfl, t.last, o411.cell rfl, t.ins, o411.cell rfl, ?_⟩
          rw [hil]
          refine (rout_any t (ht.no k411) t.last (Nat.le_refl _)).mono ?_
          rintro e w442 ⟨b, rfl, hb, c442⟩
          rw [n6] at hb
          refine ⟨b, rfl, brB_of (fun hbt => ?_) (fun hbf => no (trN k411 c442) fun h => ?_)⟩
          · have hlast := hb.1 hbt
            obtain ⟨o, ho⟩ : ∃ o, os[v.last.toNat]? = some o := ⟨_, List.getElem?_eq_getElem (by have := hlast.1; have := hlast.2.1; omega)⟩
            obtain ⟨u1, u2, _⟩ := hov.2 _ _ _ ho (outAt_ix hlast.1 hlast.2.1)
            have o442 := o411.no c442
            refine ⟨t.outs, o442.cell rfl, v.last, by have := o442.cell (k := 7) (v := .int .i64 t.last) rfl; rw [n6] at this; exact this, (hos.no (trN k411 c442)).ix hlast.1 ho fun a _ hcell' => ⟨o.steps, hcell' 1 _ rfl, _, rfl, ⟨fun h => ?_, fun h => ?_⟩, trN k411 c442⟩⟩
            · have h := of_decide_eq_true h
              exact ⟨⟨q1, q2, q3, q4, q5, q6, q7⟩, fun k i hi => hall k i (List.getElem?_eq_some_iff.1 hi).1 hi, fun k o ho => hexit k o (List.getElem?_eq_some_iff.1 ho).1 ho, fun k c hc => hcell k c (List.getElem?_eq_some_iff.1 hc).1 hc, hlast, by rw [← u2]; exact h⟩
            · apply decide_eq_true
              rw [u2]; exact h.lastS
          · rw [hb.2 h.last] at hbf; cases hbf
  · have bad : ¬ HeadV v → (true = false ↔ HeadV v) ∧ Chg No w11 w11 := fun h => ⟨⟨(fun h => by cases h), fun h' => absurd h' h⟩, Chg.refl _ _⟩
    refine ⟨t.ins, o11.cell rfl, brB_of (fun hw => bad fun h => ?_) (fun hw => ?_)⟩
    · have := of_decide_eq_true hw
      have := h.1; omega
    have g1 := of_decide_eq_false hw
    refine ⟨t.outs, o11.cell rfl, brB_of (fun hw => bad fun h => ?_) (fun hw => ?_)⟩
    · have := of_decide_eq_true hw
      have := h.2.1; omega
    have g2 := of_decide_eq_false hw
    refine ⟨t.start, o11.cell rfl, (within_any _ _ _).mono ?_⟩
    rintro e w16 ⟨rfl, rfl⟩
    refine ⟨_, rfl, brB_of (fun hw => bad fun h => wi_no hw (by rw [n1]; exact h.2.2.1)) (fun hw => ?_)⟩
    have g3 := wi_yes hw
    refine ⟨t.slots, o11.cell rfl, (within_any _ _ _).mono ?_⟩
    rintro e w16 ⟨rfl, rfl⟩
    refine ⟨_, rfl, brB_of (fun hw => bad fun h => wi_no hw (by rw [n2]; exact h.2.2.2.1)) (fun hw => ?_)⟩
    have g4 := wi_yes hw
    refine ⟨t.grow, o11.cell rfl, (within_any _ _ _).mono ?_⟩
    rintro e w16 ⟨rfl, rfl⟩
    refine ⟨_, rfl, brB_of (fun hw => bad fun h => wi_no hw (by rw [n4]; exact h.2.2.2.2.1)) (fun hw => ?_)⟩
    have g5 := wi_yes hw
    refine ⟨t.backs, o11.cell rfl, (within_any _ _ _).mono ?_⟩
    rintro e w16 ⟨rfl, rfl⟩
    refine ⟨_, rfl, brB_of (fun hw => bad fun h => wi_no hw (by rw [n3]; exact h.2.2.2.2.2.1)) (fun hw => ?_)⟩
    have g6 := wi_yes hw
    refine ⟨t.growBack, o11.cell rfl, (within_any _ _ _).mono ?_⟩
    rintro e w16 ⟨rfl, rfl⟩
    refine ⟨_, rfl, ⟨fun hw => ?_, fun h => ?_⟩, Chg.refl _ _⟩
    · have g7 := wi_yes hw
      exact ⟨by omega, by omega, by omega, by omega, by omega, by omega, by omega⟩
    · have := h.2.2.2.2.2.2
      rw [n5]; simp; exact this
end Go.Proofs.Ytkjpmkopnkkbmaa
