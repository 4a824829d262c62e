/- The document's own answers (hollowayref1, hollowayref15). -/
import Derived.Test.YtblmoilneiffgaaGreatJ3
import Derived.Test.YtblmoilneiffgaaGreatJ5
import Derived.Test.YtblmoilneiffgaaGreatJ4
import Derived.Test.YtblmoilneiffgaaGreatJ9

/- The document's own answer to cells and digits (hollowayref1), over the lifted text. -/
set_option maxRecDepth 100000
namespace Go.Proofs.YtblmoilneiffgaaGreat
open Go.RowKit

theorem rflag_any (b : Bool) (w : World) : Calls Tryz.prog fn_hollowayref1_Flag #[.bool b] w fun e w' => e = .returned (.int .i64 (Cn.flag b)) ∧ w = w' := by
  refine (hollowayref1_Flag_lift (K := fun r w' => r = .int .i64 (Cn.flag b) ∧ w = w') ?_).mono (by rintro e w' ⟨r, rfl, rfl, h⟩; exact ⟨rfl, h⟩)
  unfold hollowayref1_Flag_sh
  exact brB_of (fun h => ⟨by rw [h]; rfl, rfl⟩) (fun h => ⟨by rw [h]; rfl, rfl⟩)
theorem risOne_any (op : Int) (w : World) : Calls Tryz.prog fn_hollowayref1_IsOne #[.int .i64 op] w fun e w' => e = .returned (.bool (Cn.risOne op)) ∧ w = w' := by
  refine (hollowayref1_IsOne_lift (K := fun r w' => r = .bool (Cn.risOne op) ∧ w = w') ?_).mono (by rintro e w' ⟨r, rfl, rfl, h⟩; exact ⟨rfl, h⟩)
  unfold hollowayref1_IsOne_sh
  repeat' refine brB_of (fun _ => ?_) (fun _ => ?_)
  all_goals
    refine ⟨?_, rfl⟩
    congr 1
    rw [Bool.eq_iff_iff]; unfold Cn.risOne; simp at *; omega
theorem risTwo_any (op : Int) (w : World) : Calls Tryz.prog fn_hollowayref1_IsTwo #[.int .i64 op] w fun e w' => e = .returned (.bool (Cn.risTwo op)) ∧ w = w' := by
  refine (hollowayref1_IsTwo_lift (K := fun r w' => r = .bool (Cn.risTwo op) ∧ w = w') ?_).mono (by rintro e w' ⟨r, rfl, rfl, h⟩; exact ⟨rfl, h⟩)
  unfold hollowayref1_IsTwo_sh
  repeat' refine brB_of (fun _ => ?_) (fun _ => ?_)
  all_goals
    refine ⟨?_, rfl⟩
    congr 1
    rw [Bool.eq_iff_iff]; unfold Cn.risTwo; simp at *; omega
theorem wr_wrap (x : Int) : wr x = wrap64 x := IntWalk.i64_left x
theorem rone_any (op a : Int) (w : World) : Calls Tryz.prog fn_hollowayref1_One #[.int .i64 op, .int .i64 a] w fun e w' => e = .returned (.tuple #[.int .i64 (Cn.rone op a), .bool (Cn.isOne op)]) ∧ w = w' := by
  refine (hollowayref1_One_lift (K := fun r w' => r = .tuple #[.int .i64 (Cn.rone op a), .bool (Cn.isOne op)] ∧ w = w') ?_).mono (by rintro e w' ⟨r, rfl, rfl, h⟩; exact ⟨rfl, h⟩)
  unfold hollowayref1_One_sh Cn.rone Cn.isOne
  refine brB_of (fun h => ?_) (fun h => brB_of (fun h2 => ?_) (fun h2 => brB_of (fun h3 => ?_) (fun h3 => brB_of (fun h4 => ?_) (fun h4 => ?_))))
  · have h : op = 16 := by simpa using h
    subst h; refine ⟨?_, rfl⟩; rw [wr_wrap, if_pos rfl, if_pos rfl, show 0 - a = -a by omega]
  · have h : op = 20 := by simpa using h2
    subst h; refine ⟨?_, rfl⟩; rw [wr_wrap]; rfl
  · have h : op = 26 := by simpa using h3
    subst h
    refine (rflag_any _ _).mono ?_
    rintro e w' ⟨rfl, rfl⟩
    exact ⟨_, rfl, rfl, rfl⟩
  · have h : op = 27 := by simpa using h4
    subst h
    refine (rflag_any _ _).mono ?_
    rintro e w' ⟨rfl, rfl⟩
    exact ⟨_, rfl, rfl, rfl⟩
  · have h : op ≠ 16 := by simpa using h
    have h2 : op ≠ 20 := by simpa using h2
    have h3 : op ≠ 26 := by simpa using h3
    have h4 : op ≠ 27 := by simpa using h4
    refine ⟨?_, rfl⟩
    rw [if_neg h, if_neg h2, if_neg h3, if_neg h4, if_neg h, if_neg h2, if_neg h3, if_neg h4]
theorem rfloor_any (a b : Int) (h0 : b ≠ 0) (w : World) : Calls Tryz.prog fn_hollowayref1_Floor #[.int .i64 a, .int .i64 b] w fun e w' => e = .returned (.tuple #[.int .i64 (Cn.rquo a b), .int .i64 (Cn.rrem a b)]) ∧ w = w' := by
  refine (hollowayref1_Floor_lift (K := fun r w' => r = .tuple #[.int .i64 (Cn.rquo a b), .int .i64 (Cn.rrem a b)] ∧ w = w') ?_).mono (by rintro e w' ⟨r, rfl, rfl, h⟩; exact ⟨rfl, h⟩)
  unfold hollowayref1_Floor_sh
  refine ⟨h0, fun c w' => c = decide (Cn.rodd a b) ∧ w = w', ?_, ?_⟩
  · rintro c w3 ⟨rfl, rfl⟩
    simp only [wr_wrap]
    refine brB_of (fun h => ?_) (fun h => ?_)
    · have h := of_decide_eq_true h
      unfold Cn.rquo Cn.rrem
      rw [if_pos h, if_pos h]; exact ⟨rfl, trivial⟩
    · have h := of_decide_eq_false h
      unfold Cn.rquo Cn.rrem
      rw [if_neg h, if_neg h]; exact ⟨rfl, trivial⟩
  · have hr : wr (a - wr (wr (Int.tdiv a b) * b)) = Cn.rr a b := by unfold Cn.rr; simp only [wr_wrap]
    rw [hr]
    refine brB_of (fun h => ⟨?_, rfl⟩) (fun h => ⟨?_, rfl⟩)
    · have h : Cn.rr a b ≠ 0 := by simpa using h
      unfold Cn.rodd
      by_cases h1 : Cn.rr a b < 0 <;> by_cases h2 : b < 0 <;> simp [h, h1, h2]
    · have h : Cn.rr a b = 0 := by simpa using h
      symm; apply decide_eq_false
      rintro ⟨h1, _⟩; exact h1 h
theorem ret_shl (a : Int) (k : Nat) : IntKind.u64.wrap (IntKind.u64.wrap (a * 2 ^ k) * 2) = IntKind.u64.wrap (a * 2 ^ (k + 1)) := by
  rw [Int.pow_succ]; simp only [IntKind.wrap_u64]; rw [← Int.mul_assoc]; omega
theorem ret_shr (a : Int) (k : Nat) : IntKind.u64.wrap a / 2 ^ k / 2 = IntKind.u64.wrap a / 2 ^ (k + 1) := by
  rw [Int.pow_succ, ← Int.ediv_ediv_of_nonneg (Int.pow_nonneg (by decide))]
theorem u64_range (a : Int) : 0 ≤ IntKind.u64.wrap a ∧ IntKind.u64.wrap a ≤ 18446744073709551615 := by rw [IntKind.wrap_u64]; omega
theorem div_range {x : Int} (k : Nat) (h : 0 ≤ x ∧ x ≤ 18446744073709551615) : 0 ≤ x / 2 ^ k ∧ x / 2 ^ k ≤ 18446744073709551615 := by
  have hp : (0 : Int) < 2 ^ k := Int.pow_pos (by decide)
  refine ⟨Int.ediv_nonneg h.1 (by omega), ?_⟩
  have : x / 2 ^ k ≤ x := Int.ediv_le_self _ h.1
  omega
theorem imin_eq (a b : Int) : imin a b = min a b := by unfold imin; split <;> omega
theorem imax_eq (a b : Int) : imax a b = max a b := by unfold imax; split <;> omega
theorem rtwo_any (op a b : Int) (hb : -9223372036854775808 ≤ b ∧ b ≤ 9223372036854775807) (w : World) : Calls Tryz.prog fn_hollowayref1_Two #[.int .i64 op, .int .i64 a, .int .i64 b] w fun e w' => e = .returned (.tuple #[.int .i64 (Cn.rtwo op a b), .bool (Cn.isTwo op b)]) ∧ w = w' := by
  refine (hollowayref1_Two_lift (K := fun r w' => r = .tuple #[.int .i64 (Cn.rtwo op a b), .bool (Cn.isTwo op b)] ∧ w = w') ?_).mono (by rintro e w' ⟨r, rfl, rfl, h⟩; exact ⟨rfl, h⟩)
  unfold hollowayref1_Two_sh
  refine (risTwo_any op w).mono ?_
  rintro e w5 ⟨rfl, rfl⟩
  refine ⟨_, rfl, brB_of (fun h0 => ?_) (fun h0 => ?_)⟩
  · refine ⟨?_, rfl⟩
    rw [← Cn.rtwo_none1 a b h0, ← Cn.rtwo_none2 b h0]
  have ne : ∀ {n : Int}, (op == n) = false → op ≠ n := fun h => by simpa using h
  have eq : ∀ {n : Int}, (op == n) = true → op = n := fun h => by simpa using h
  refine brB_of (fun h1 => ?_) (fun h1 => brB_of (fun h2 => ?_) (fun h2 => brB_of (fun h3 => ?_) (fun h3 => ?_)))
  · have := eq h1; subst this; exact ⟨by rw [wr_wrap]; rfl, rfl⟩
  · have := eq h2; subst this; exact ⟨by rw [wr_wrap]; rfl, rfl⟩
  · have := eq h3; subst this; exact ⟨by rw [wr_wrap]; rfl, rfl⟩
  refine ⟨fun c w' => c = decide (op = 14 ∨ op = 15) ∧ w = w', ?_, ?_⟩
  · rintro c w7 ⟨rfl, rfl⟩
    refine brB_of (fun h45 => ?_) (fun h45 => ?_)
    · have h45 := of_decide_eq_true h45
      refine brB_of (fun hz => ?_) (fun hz => ?_)
      · have hz : b = 0 := by simpa using hz
        subst hz
        rcases h45 with rfl | rfl <;> exact ⟨rfl, rfl⟩
      · have hz : b ≠ 0 := by simpa using hz
        refine (rfloor_any a b hz w).mono ?_
        rintro e w10 ⟨rfl, rfl⟩
        refine ⟨_, _, rfl, ?_⟩
        rcases h45 with rfl | rfl
        · refine brB_t ⟨?_, rfl⟩
          unfold Cn.rtwo Cn.isTwo; simp [hz]
        · refine brB_f ⟨?_, rfl⟩
          unfold Cn.rtwo Cn.isTwo; simp [hz]
    · have h45 := of_decide_eq_false h45
      have h4 : (op == 14) = false := by simp; omega
      have h5 : (op == 15) = false := by simp; omega
      refine brB_of (fun h6 => ?_) (fun h6 => brB_of (fun h7 => ?_) (fun h7 => brB_of (fun h8 => ?_) (fun h8 => ?_)))
      · have := eq h6; subst this; exact ⟨rfl, rfl⟩
      · have := eq h7; subst this; exact ⟨rfl, rfl⟩
      · have := eq h8; subst this; exact ⟨rfl, rfl⟩
      refine ⟨fun c w' => c = decide (op = 21 ∨ op = 22) ∧ w = w', ?_, ?_⟩
      · rintro c w13 ⟨rfl, rfl⟩
        refine brB_of (fun hs => ?_) (fun hs => ?_)
        · have hs := of_decide_eq_true hs
          have hres : Cn.rtwo op a b = Cn.rshift op a b ∧ Cn.isTwo op b = true := by rcases hs with rfl | rfl <;> exact ⟨rfl, rfl⟩
          rw [hres.1, hres.2]
          refine ⟨fun c w' => c = decide (b < 0 ∨ 63 < b) ∧ w = w', ?_, ?_⟩
          · rintro c w15 ⟨rfl, rfl⟩
            refine brB_of (fun hz => ⟨?_, rfl⟩) (fun hz => ?_)
            · have hz := of_decide_eq_true hz
              unfold Cn.rshift; rw [if_pos hz]
            · have hz := of_decide_eq_false hz
              obtain ⟨n, rfl⟩ := Int.eq_ofNat_of_zero_le (show 0 ≤ b by omega)
              have hn : n ≤ 63 := by omega
              refine ⟨fun x k w' => ∃ j : Nat, k = j ∧ j ≤ n ∧ x = (if op = 21 then IntKind.u64.wrap (a * 2 ^ j) else IntKind.u64.wrap a / 2 ^ j) ∧ w = w', fun _ k _ => n - k.toNat, ⟨0, rfl, Nat.zero_le _, by simp, rfl⟩, ?_⟩
              rintro x k w17 ⟨j, rfl, hj, rfl, rfl⟩
              refine brB_of (fun hlt => ?_) (fun hlt => ?_)
              · have hlt : j < n := by simpa using hlt
                refine ⟨fun x w' => x = (if op = 21 then IntKind.u64.wrap (a * 2 ^ (j + 1)) else IntKind.u64.wrap a / 2 ^ (j + 1)) ∧ w = w', ?_, ?_⟩
                · rintro x w20 ⟨rfl, rfl⟩
                  rw [wr_in (by omega)]
                  exact ⟨⟨j + 1, by omega, by omega, rfl, rfl⟩, by show n - Int.toNat ((j : Int) + 1) < n - Int.toNat (j : Int); omega⟩
                · refine brB_of (fun h21 => ?_) (fun h21 => ?_)
                  · have h21 := eq h21
                    rw [if_pos h21, if_pos h21]
                    exact ⟨ret_shl a j, rfl⟩
                  · have h21 := ne h21
                    rw [if_neg h21, if_neg h21]
                    refine ⟨by decide, ?_, rfl⟩
                    have hd := div_range j (u64_range a)
                    rw [Int.tdiv_eq_ediv_of_nonneg hd.1, ret_shr]
                    have hd' := div_range (j + 1) (u64_range a)
                    rw [IntKind.wrap_u64]; omega
              · have hlt : j = n := by have : ¬ j < n := by simpa using hlt
                                       omega
                subst hlt
                refine ⟨?_, rfl⟩
                unfold Cn.rshift
                rw [wr_wrap, Int.toNat_natCast]
                by_cases h21 : op = 21
                · rw [if_pos h21, if_neg hz, if_pos h21]
                · rw [if_neg h21, if_neg hz, if_neg h21]
          · refine brB_of (fun hb0 => ⟨?_, rfl⟩) (fun hb0 => ⟨?_, rfl⟩)
            · have hb0 := of_decide_eq_true hb0
              symm; apply decide_eq_true; omega
            · have hb0 := of_decide_eq_false hb0
              rw [Bool.eq_iff_iff]; simp; omega
        · have hs := of_decide_eq_false hs
          have h9 : (op == 21) = false := by simp; omega
          have h10 : (op == 22) = false := by simp; omega
          refine brB_of (fun h11 => ?_) (fun h11 => brB_of (fun h12 => ?_) (fun h12 => brB_of (fun h13 => ?_) (fun h13 => brB_of (fun h14 => ?_) (fun h14 => ?_))))
          · have := eq h11; subst this
            refine (rflag_any _ _).mono ?_
            rintro e w' ⟨rfl, rfl⟩
            exact ⟨_, rfl, rfl, rfl⟩
          · have := eq h12; subst this
            refine (rflag_any _ _).mono ?_
            rintro e w' ⟨rfl, rfl⟩
            exact ⟨_, rfl, rfl, rfl⟩
          · have := eq h13; subst this
            refine (rflag_any _ _).mono ?_
            rintro e w' ⟨rfl, rfl⟩
            exact ⟨_, rfl, rfl, rfl⟩
          · have := eq h14; subst this
            rw [imin_eq]; exact ⟨rfl, rfl⟩
          · have := Cn.rtwo_max h0 h1 h2 h3 h4 h5 h6 h7 h8 h9 h10 h11 h12 h13 h14
            subst this
            rw [imax_eq]; exact ⟨rfl, rfl⟩
      · refine brB_of (fun h21 => ⟨?_, rfl⟩) (fun h21 => ⟨?_, rfl⟩)
        · rw [h21]; have := eq h21; symm; exact decide_eq_true (Or.inl this)
        · have h21 := ne h21
          rw [Bool.eq_iff_iff]; simp; intro h; exact absurd h h21
  · refine brB_of (fun h21 => ⟨?_, rfl⟩) (fun h21 => ⟨?_, rfl⟩)
    · rw [h21]; have := eq h21; symm; exact decide_eq_true (Or.inl this)
    · have h21 := ne h21
      rw [Bool.eq_iff_iff]; simp; intro h; exact absurd h h21
theorem bs_app (l m : List UInt8) : bs l ++ bs m = bs (l ++ m) := by
  apply ByteArray.ext
  rw [ByteArray.data_append]; simp [bs]
theorem dig_x (n : Nat) : ByteArray.extract (bs [48, 49, 50, 51, 52, 53, 54, 55, 56, 57, 65, 66, 67, 68, 69, 70, 71, 72, 73, 74, 75, 76, 77, 78, 79, 80, 81, 82, 83, 84, 85, 86, 87, 88, 89, 90]) (n % 10) (n % 10 + 1) = bs [UInt8.ofNat (48 + n % 10)] := by
  have h : ∀ k : Fin 10, (ByteArray.extract (bs [48, 49, 50, 51, 52, 53, 54, 55, 56, 57, 65, 66, 67, 68, 69, 70, 71, 72, 73, 74, 75, 76, 77, 78, 79, 80, 81, 82, 83, 84, 85, 86, 87, 88, 89, 90]) k.val (k.val + 1)).data.toList = [UInt8.ofNat (48 + k.val)] := by decide +kernel
  apply ByteArray.ext
  apply Array.toList_inj.1
  exact h ⟨n % 10, Nat.mod_lt _ (by decide)⟩
theorem rput_any (v : Int) (w : World) : Calls Tryz.prog fn_hollowayref1_Put #[.int .i64 v, .int .i64 10] w fun e w' => e = .returned (.string (putV v)) ∧ w = w' := by
  refine (hollowayref1_Put_lift (K := fun r w' => r = .string (putV v) ∧ w = w') ?_).mono (by rintro e w' ⟨r, rfl, rfl, h⟩; exact ⟨rfl, h⟩)
  unfold hollowayref1_Put_sh
  have e10 : IntKind.wrap .u64 10 = 10 := by decide
  have hu : ∀ x : Int, 0 ≤ IntKind.wrap .u64 x ∧ IntKind.wrap .u64 x < 18446744073709551616 := fun x => by rw [IntKind.wrap_u64]; omega
  refine ⟨fun b w' => b = false ∧ w = w', ?_, brB_f ⟨rfl, rfl⟩⟩
  rintro b w3 ⟨rfl, rfl⟩
  refine brB_f ⟨fun n w' => n = (absN v : Int) ∧ w = w', ?_, ?_⟩
  · rintro n w6 ⟨rfl, rfl⟩
    have hN : absN v < 10 ^ 20 := by
      unfold absN
      have := hu (0 - IntKind.wrap .u64 v)
      have := hu v
      split <;> omega
    refine ⟨fun n o w' => ∃ (k f : Nat) (l : List UInt8), n = (k : Int) ∧ k < 10 ^ f ∧ (l = [] → 0 < f) ∧ f + l.length ≤ 20 ∧ dg f k l = dg 20 (absN v) [] ∧ o = bs l ∧ w = w', fun n o _ => if n = 0 ∧ o.size ≠ 0 then 0 else n.toNat + 1 + (1 - o.size), ⟨absN v, 20, [], rfl, hN, (fun _ => by decide), by simp, rfl, rfl, rfl⟩, ?_⟩
    rintro n o w7 ⟨k, f, l, rfl, hk, hl, hfl, hd, rfl, rfl⟩
    have hlen : ∀ l : List UInt8, (bs l).size = l.length := fun _ => rfl
    have step : (0 < k ∨ l = []) → hollowayref1_Put_j1 10 (k : Int) (bs l) (fun n o w' => ∃ (k f : Nat) (l : List UInt8), n = (k : Int) ∧ k < 10 ^ f ∧ (l = [] → 0 < f) ∧ f + l.length ≤ 20 ∧ dg f k l = dg 20 (absN v) [] ∧ o = bs l ∧ w = w') (fun n o _ => if n = 0 ∧ o.size ≠ 0 then 0 else n.toNat + 1 + (1 - o.size)) w v true w (fun r w' => r = .string (putV v) ∧ w = w') := by
      intro hgo
      have hf : 0 < f := by
        rcases hgo with h | h
        · rcases Nat.eq_zero_or_pos f with h0 | h0
          · subst h0; simp at hk; omega
          · exact h0
        · exact hl h
      obtain ⟨f', rfl⟩ : ∃ f', f = f' + 1 := ⟨f - 1, by omega⟩
      unfold hollowayref1_Put_j1
      rw [e10]
      have em : Int.tmod (k : Int) 10 = ((k % 10 : Nat) : Int) := by rw [Int.tmod_eq_emod_of_nonneg (by omega)]; omega
      have ed : Int.tdiv (k : Int) 10 = ((k / 10 : Nat) : Int) := by rw [Int.tdiv_eq_ediv_of_nonneg (by omega)]; omega
      rw [em, ed, wr_in (x := ((k % 10 : Nat) : Int)) (by omega), wr_in (x := ((k % 10 : Nat) : Int) + 1) (by omega)]
      rw [show Int.toNat ((k % 10 : Nat) : Int) = k % 10 from Int.toNat_natCast _, show Int.toNat (((k % 10 : Nat) : Int) + 1) = k % 10 + 1 by omega, dig_x, bs_app]
      have hlt : k / 10 < 10 ^ f' := by rw [Nat.div_lt_iff_lt_mul (by decide)]; rw [Nat.pow_succ] at hk; exact hk
      have hw64 : IntKind.wrap .u64 ((k / 10 : Nat) : Int) = ((k / 10 : Nat) : Int) := by
        rw [IntKind.wrap_u64]
        have : (10 : Nat) ^ f' ≤ 10 ^ 19 := Nat.pow_le_pow_right (by decide) (by omega)
        omega
      rw [hw64]
      refine brB_t ⟨by decide, by omega, by omega, ?_, ?_, by decide, ⟨k / 10, f', UInt8.ofNat (48 + k % 10) :: l, rfl, hlt, (fun h => by cases h), by simp; omega, ?_, rfl, rfl⟩, ?_⟩
      · have : ((bs [48, 49, 50, 51, 52, 53, 54, 55, 56, 57, 65, 66, 67, 68, 69, 70, 71, 72, 73, 74, 75, 76, 77, 78, 79, 80, 81, 82, 83, 84, 85, 86, 87, 88, 89, 90]).size : Int) = 36 := by decide
        rw [this]; omega
      · rw [hlen, hlen]; show ((1 : Nat) : Int) + _ ≤ _; omega
      · rw [← hd]
        conv => rhs; unfold dg
        rw [if_neg (fun h => by
          rcases hgo with hg | hg
          · omega
          · exact h.2 hg)]
      · have e1 : ¬ ((k : Int) = 0 ∧ (bs l).size ≠ 0) := by
          rintro ⟨h1, h2⟩
          rcases hgo with hg | hg
          · omega
          · rw [hg] at h2; exact h2 rfl
        dsimp only
        rw [if_neg (c := (k : Int) = 0 ∧ (bs l).size ≠ 0) e1, hlen, hlen]
        simp only [List.length_append, List.length_cons, List.length_nil]
        split <;> omega
    refine brB_of (fun hp => ?_) (fun hp => ?_)
    · have hp := of_decide_eq_true hp
      exact step (Or.inl (by omega))
    · have hp := of_decide_eq_false hp
      have hk0 : k = 0 := by omega
      subst hk0
      by_cases hle : l = []
      · subst hle
        rw [show ((bs []).toList == (bs []).toList) = true from by simp]
        exact step (Or.inr rfl)
      · have hne : ((bs l).toList == (bs []).toList) = false := by
          rw [beq_eq_false_iff_ne]
          intro h
          apply hle
          have h1 : (bs l).toList = l := by rw [ByteArray.toList_eq]
          have h2 : (bs []).toList = [] := by rw [ByteArray.toList_eq]
          rw [h1, h2] at h; exact h
        rw [hne]
        unfold hollowayref1_Put_j1
        have hdd : dg 20 (absN v) [] = l := by rw [← hd, dg_zero _ _ hle]
        refine brB_f (brB_of (fun hv => ?_) (fun hv => ?_))
        · have hv := of_decide_eq_true hv
          refine ⟨?_, ?_, rfl⟩
          · rw [hlen, hlen]; show (1 : Int) + _ ≤ _; omega
          · unfold putV; rw [if_pos hv, hdd]
        · have hv := of_decide_eq_false hv
          refine ⟨?_, rfl⟩
          unfold putV; rw [if_neg hv, hdd]
  · have a1 := hu (0 - IntKind.wrap .u64 v)
    have a2 := hu v
    refine brB_of (fun hv => ⟨?_, rfl⟩) (fun hv => ⟨?_, rfl⟩)
    · have hv := of_decide_eq_true hv
      unfold absN; rw [if_pos hv]; omega
    · have hv := of_decide_eq_false hv
      unfold absN; rw [if_neg hv]; omega
end Go.Proofs.YtblmoilneiffgaaGreat

/- The document's own answer to traces (hollowayref15): what is named, which traces may be. -/
set_option maxRecDepth 100000
namespace Go.Proofs.YtblmoilneiffgaaGreat
open Go.RowKit

theorem rgives_any (op : Int) (w : World) : Calls Tryz.prog fn_hollowayref15_Gives #[.int .i64 op] w fun e w' => e = .returned (.bool (givesV op)) ∧ w = w' := by
  refine (hollowayref15_Gives_lift (K := fun r w' => r = .bool (givesV op) ∧ w = w') ?_).mono (by rintro e w' ⟨r, rfl, rfl, h⟩; exact ⟨rfl, h⟩)
  unfold hollowayref15_Gives_sh
  repeat' refine brB_of (fun _ => ?_) (fun _ => ?_)
  all_goals
    refine ⟨?_, rfl⟩
    congr 1
    rw [Bool.eq_iff_iff]; unfold givesV; simp at *; omega
theorem within_any (x m : Int) (w : World) : Calls Tryz.prog fn_hollowayref15_within #[.int .i64 x, .int .i64 m] w fun e w' => e = .returned (.bool (decide (0 ≤ x ∧ x ≤ m))) ∧ w = w' := by
  refine (hollowayref15_within_lift (K := fun r w' => r = .bool (decide (0 ≤ x ∧ x ≤ m)) ∧ w = w') ?_).mono (by rintro e w' ⟨r, rfl, rfl, h⟩; exact ⟨rfl, h⟩)
  unfold hollowayref15_within_sh
  refine brB_of (fun h => ?_) (fun h => ?_)
  all_goals
    refine ⟨?_, rfl⟩
    congr 1
    rw [Bool.eq_iff_iff]; simp at *; omega
theorem lit1 {w w' : World} {b : Nat} (x : Int) (hb : b = w.heap.size) (hw : w' = World.alloc w (.cells #[.int .i64 x] T_int)) : Ow intE w' ⟨some ⟨b, 0, none⟩, 1, 1⟩ [x] ∧ Chg No w w' := by
  rw [hw, hb]
  exact ⟨Ow.lit (E := intE) w [x] [.int .i64 x] rfl (by show 1 ≤ maxLen; unfold maxLen; omega), Chg.alloc _ _ _⟩
theorem lit2 {w w' : World} {b : Nat} (x y : Int) (hb : b = w.heap.size) (hw : w' = World.alloc w (.cells #[.int .i64 x, .int .i64 y] T_int)) : Ow intE w' ⟨some ⟨b, 0, none⟩, 2, 2⟩ [x, y] ∧ Chg No w w' := by
  rw [hw, hb]
  exact ⟨Ow.lit (E := intE) w [x, y] [.int .i64 x, .int .i64 y] rfl (by show 2 ≤ maxLen; unfold maxLen; omega), Chg.alloc _ _ _⟩
def NewI (w w' : World) (r : Value) (xs : List Int) : Prop := ∃ s : Sl, r = s.val ∧ Ow intE w' s xs ∧ Chg No w w' ∧ ∀ k, s.blk = some k → w.heap.size ≤ k
theorem NewI.one {w0 w w' : World} {b : Nat} {x : Int} (c : Chg No w0 w) (hb : b = w.heap.size) (hw : w' = World.alloc w (.cells #[.int .i64 x] T_int)) : NewI w0 w' (.slice (some ⟨b, 0, none⟩) 1 1) [x] := by
  obtain ⟨h1, h2⟩ := lit1 x hb hw
  have := c.size
  exact ⟨⟨some ⟨b, 0, none⟩, 1, 1⟩, rfl, h1, trN c h2, fun k hk => by have : b = k := Option.some.inj hk; omega⟩
theorem NewI.two {w0 w w' : World} {b : Nat} {x y : Int} (c : Chg No w0 w) (hb : b = w.heap.size) (hw : w' = World.alloc w (.cells #[.int .i64 x, .int .i64 y] T_int)) : NewI w0 w' (.slice (some ⟨b, 0, none⟩) 2 2) [x, y] := by
  obtain ⟨h1, h2⟩ := lit2 x y hb hw
  have := c.size
  exact ⟨⟨some ⟨b, 0, none⟩, 2, 2⟩, rfl, h1, trN c h2, fun k hk => by have : b = k := Option.some.inj hk; omega⟩
theorem NewI.nil {w w' : World} (c : Chg No w w') : NewI w w' (.slice none 0 0) [] := ⟨nilS, rfl, Ow.nil _ _, c, fun k hk => by cases hk⟩
theorem ruses_any (i : In5) (w : World) : Calls Tryz.prog fn_hollowayref15_Uses #[.agg (insC i).toArray] w fun e w' => ∃ r, e = .returned r ∧ NewI w w' r (usesV i) := by
  refine (hollowayref15_Uses_lift (K := fun r w' => NewI w w' r (usesV i)) ?_).mono (by rintro e w' ⟨r, rfl, h⟩; exact ⟨r, rfl, h⟩)
  unfold hollowayref15_Uses_sh
  intro b6 w7 hb6 hw7
  have o7 : Ob w7 b6 (insC i) T_api_Ins := by rw [hw7, hb6]; exact Ob.new w (insC i) T_api_Ins
  have c7 := al hw7
  have eqb : ∀ {n : Int}, (i.a == n) = true → i.a = n := fun h => by simpa using h
  have neb : ∀ {n : Int}, (i.a == n) = false → i.a ≠ n := fun h => by simpa using h
  refine ⟨i.a, o7.cell rfl, brB_of (fun h4 => ?_) (fun h4 => ?_)⟩
  · have h4 := eqb h4
    refine ⟨i.b, o7.cell rfl, (risTwo_any i.b w7).mono ?_⟩
    rintro e w11 ⟨rfl, rfl⟩
    refine ⟨_, rfl, brB_of (fun h2 => ?_) (fun h2 => ?_)⟩
    · have hu : usesV i = [i.c, i.d] := by unfold usesV; rw [if_pos h4, if_pos h2]
      rw [hu]
      exact ⟨i.c, o7.cell rfl, i.d, o7.cell rfl, fun b15 w16 hb hw => NewI.two c7 hb hw⟩
    · have hu : usesV i = [i.c] := by unfold usesV; rw [if_pos h4, if_neg (by rw [h2]; decide)]
      rw [hu]
      exact ⟨i.c, o7.cell rfl, fun b15 w16 hb hw => NewI.one c7 hb hw⟩
  · have h4 := neb h4
    refine ⟨fun b w' => b = decide (i.a = 5 ∨ i.a = 7 ∨ i.a = 8 ∨ i.a = 10 ∨ i.a = 11) ∧ w' = w7, ?_, ?_⟩
    · rintro b w20 ⟨rfl, rfl⟩
      refine brB_of (fun h5 => ?_) (fun h5 => ?_)
      · have h5 := of_decide_eq_true h5
        have hu : usesV i = [i.c] := by unfold usesV; rw [if_neg h4, if_pos h5]
        rw [hu]
        exact ⟨i.c, o7.cell rfl, fun b15 w16 hb hw => NewI.one c7 hb hw⟩
      · have h5 := of_decide_eq_false h5
        refine ⟨fun b w' => b = decide (i.a = 6 ∨ i.a = 9) ∧ w' = w20, ?_, ?_⟩
        · rintro b w25 ⟨rfl, rfl⟩
          refine brB_of (fun h6 => ?_) (fun h6 => ?_)
          · have h6 := of_decide_eq_true h6
            have hu : usesV i = [i.c, i.d] := by unfold usesV; rw [if_neg h4, if_neg h5, if_pos h6]
            rw [hu]
            exact ⟨i.c, o7.cell rfl, i.d, o7.cell rfl, fun b15 w16 hb hw => NewI.two c7 hb hw⟩
          · have h6 := of_decide_eq_false h6
            have hu : usesV i = [] := by unfold usesV; rw [if_neg h4, if_neg h5, if_neg h6]
            rw [hu]
            exact NewI.nil c7
        · refine brB_of (fun h => ⟨?_, rfl⟩) (fun h => ⟨?_, rfl⟩)
          all_goals rw [Bool.eq_iff_iff]; simp at *; omega
    · refine brB_of (fun h => ⟨?_, rfl⟩) (fun h => brB_of (fun h => ⟨?_, rfl⟩) (fun h => brB_of (fun h => ⟨?_, rfl⟩) (fun h => brB_of (fun h => ⟨?_, rfl⟩) (fun h => ⟨?_, rfl⟩))))
      all_goals rw [Bool.eq_iff_iff]; simp at *; omega
theorem routs_any (i : In5) (w : World) : Calls Tryz.prog fn_hollowayref15_Outs #[.agg (insC i).toArray] w fun e w' => ∃ r, e = .returned r ∧ NewI w w' r (outsV i) := by
  refine (hollowayref15_Outs_lift (K := fun r w' => NewI w w' r (outsV i)) ?_).mono (by rintro e w' ⟨r, rfl, h⟩; exact ⟨r, rfl, h⟩)
  unfold hollowayref15_Outs_sh
  intro b6 w7 hb6 hw7
  have o7 : Ob w7 b6 (insC i) T_api_Ins := by rw [hw7, hb6]; exact Ob.new w (insC i) T_api_Ins
  have c7 := al hw7
  have eqb : ∀ {n : Int}, (i.a == n) = true → i.a = n := fun h => by simpa using h
  have neb : ∀ {n : Int}, (i.a == n) = false → i.a ≠ n := fun h => by simpa using h
  refine ⟨i.a, o7.cell rfl, brB_of (fun h4 => ?_) (fun h4 => ?_)⟩
  · have h4 := eqb h4
    refine ⟨fun b w' => b = decide (i.b = 14 ∨ i.b = 15) ∧ w' = w7, ?_, ?_⟩
    · rintro b w11 ⟨rfl, rfl⟩
      refine brB_of (fun h5 => ?_) (fun h5 => ?_)
      · have h5 := of_decide_eq_true h5
        have hu : outsV i = [i.e] := by unfold outsV; rw [if_pos h4, if_pos h5]
        rw [hu]
        exact ⟨i.e, o7.cell rfl, fun b15 w16 hb hw => NewI.one c7 hb hw⟩
      · have h5 := of_decide_eq_false h5
        have hu : outsV i = [] := by unfold outsV; rw [if_pos h4, if_neg h5]
        rw [hu]
        exact NewI.nil c7
    · refine ⟨i.b, o7.cell rfl, brB_of (fun h => ⟨?_, rfl⟩) (fun h => ⟨i.b, o7.cell rfl, ?_, rfl⟩)⟩
      all_goals rw [Bool.eq_iff_iff]; simp at *; omega
  · have h4 := neb h4
    refine ⟨fun b w' => b = decide (i.a = 5 ∨ i.a = 7 ∨ i.a = 8 ∨ i.a = 9 ∨ i.a = 10 ∨ i.a = 11) ∧ w' = w7, ?_, ?_⟩
    · rintro b w20 ⟨rfl, rfl⟩
      refine brB_of (fun h5 => ?_) (fun h5 => ?_)
      · have h5 := of_decide_eq_true h5
        have hu : outsV i = [i.e] := by unfold outsV; rw [if_neg h4, if_pos h5]
        rw [hu]
        exact ⟨i.e, o7.cell rfl, fun b15 w16 hb hw => NewI.one c7 hb hw⟩
      · have h5 := of_decide_eq_false h5
        refine brB_of (fun h6 => ?_) (fun h6 => ?_)
        · have hu : outsV i = [i.e, i.b] := by unfold outsV; rw [if_neg h4, if_neg h5, if_pos (eqb h6)]
          rw [hu]
          exact ⟨i.e, o7.cell rfl, i.b, o7.cell rfl, fun b15 w16 hb hw => NewI.two c7 hb hw⟩
        · have hu : outsV i = [] := by unfold outsV; rw [if_neg h4, if_neg h5, if_neg (neb h6)]
          rw [hu]
          exact NewI.nil c7
    · refine brB_of (fun h => ⟨?_, rfl⟩) (fun h => brB_of (fun h => ⟨?_, rfl⟩) (fun h => brB_of (fun h => ⟨?_, rfl⟩) (fun h => brB_of (fun h => ⟨?_, rfl⟩) (fun h => brB_of (fun h => ⟨?_, rfl⟩) (fun h => ⟨?_, rfl⟩)))))
      all_goals rw [Bool.eq_iff_iff]; simp at *; omega
theorem insAt_ix {t : TrG} {p : Int} (h0 : 0 ≤ p) (h1 : p < t.ins.length) : t.ins[p.toNat]? = some (insAt t p) := by
  unfold insAt; rw [List.getD_eq_getElem?_getD, List.getElem?_eq_getElem (by omega)]; rfl
theorem outAt_ix {t : TrG} {p : Int} (h0 : 0 ≤ p) (h1 : p < t.outs.length) : t.outs[p.toNat]? = some (outAt t p) := by
  unfold outAt; rw [List.getD_eq_getElem?_getD, List.getElem?_eq_getElem (by omega)]; rfl
theorem rnamed_any {D : Nat → Prop} {w : World} (t : TrP) {v : TrG} (ht : TrIs D w t v) {l : Sl} {xs : List Int} (hl : Rd intE w l xs) {k : Nat} (hk : k ≤ v.ins.length) :
    Calls Tryz.prog fn_hollowayref15_named #[.agg (trP t).toArray, l.val, .int .i64 (k : Int)] w fun e w' => ∃ b : Bool, e = .returned (.bool b) ∧ (b = true ↔ NamedV v xs k) ∧ Chg No w w' := by
  refine (hollowayref15_named_lift (K := fun r w' => ∃ b : Bool, r = .bool b ∧ (b = true ↔ NamedV v xs k) ∧ Chg No w w') ?_).mono (by rintro e w' ⟨r, rfl, b, rfl, h⟩; exact ⟨b, rfl, h⟩)
  unfold hollowayref15_named_sh
  intro b12 w13 hb12 hw13
  have o13 : Ob w13 b12 (trP t) T_api_Trace := by rw [hw13, hb12]; exact Ob.new w (trP t) T_api_Trace
  have c13 := al hw13
  have hll := hl.len
  have hcap := hl.capL
  have hil := ht.ins.len
  refine ⟨fun n w' => ∃ j : Nat, n = j ∧ j ≤ xs.length ∧ NamedV v (xs.take j) k ∧ Chg No w13 w', fun n _ => xs.length - n.toNat, ⟨0, rfl, Nat.zero_le _, (fun p hp => by simp at hp), Chg.refl _ _⟩, ?_⟩
  rintro n w14 ⟨j, rfl, hj, hn, c14⟩
  refine brB_of (fun hlt => ?_) (fun hlt => ?_)
  · have hlt : j < xs.length := by simp at hlt; omega
    obtain ⟨x, hx⟩ : ∃ x, xs[j]? = some x := ⟨_, List.getElem?_eq_getElem hlt⟩
    have k14 := trN c13 c14
    refine ⟨fun b w' => (b = false ↔ (0 ≤ x ∧ x < k ∧ givesV (insAt v x).a = true)) ∧ Chg No w14 w', ?_, ?_⟩
    · rintro b w29 ⟨hb, c29⟩
      refine brB_of (fun ht' => ?_) (fun hf => ?_)
      · refine ⟨false, rfl, ⟨(fun h => by cases h), fun h => ?_⟩, trN k14 c29⟩
        have := hb.2 (h x (List.mem_of_getElem? hx))
        rw [this] at ht'; cases ht'
      · rw [wr_in (by omega)]
        refine ⟨⟨j + 1, by omega, by omega, fun p hp => ?_, trN c14 c29⟩, by show xs.length - Int.toNat ((j : Int) + 1) < xs.length - Int.toNat (j : Int); omega⟩
        rw [List.take_add_one, hx] at hp
        rcases List.mem_append.1 hp with hp | hp
        · exact hn p hp
        · have : p = x := by simpa using hp
          rw [this]; exact hb.1 hf
    · intro w16 hw16
      have c16 := dw hw16
      have k16 := trN k14 c16
      have hl16 := hl.no k16
      have o16 := (o13.no c14).no c16
      have ix : ∀ {G : Addr → Prop}, (∀ a, held (Lw w16) (Addr.add a (Int.toNat (j : Int) * 1)) (.int .i64 x) → G a) → ∃ a : Addr, l.ptr = some a ∧ 0 ≤ (j : Int) ∧ (j : Int) < (l.len : Int) ∧ G a := fun kk =>
        hl16.ix (i := (j : Int)) (by omega) (by rw [Int.toNat_natCast]; exact hx) fun a _ hcell => kk a (by
          have q := hcell 0 _ rfl
          rw [add0] at q; exact held_Lw q)
      refine ix fun a q1 => ⟨x, q1, brB_of (fun h0 => ?_) (fun h0 => ?_)⟩
      · have h0 := of_decide_eq_true h0
        exact ⟨⟨(fun h => by cases h), fun h => by omega⟩, c16⟩
      have h0 := of_decide_eq_false h0
      refine ix fun a q1 => ⟨x, q1, brB_of (fun h1 => ?_) (fun h1 => ?_)⟩
      · have h1 := of_decide_eq_true h1
        exact ⟨⟨(fun h => by cases h), fun h => by omega⟩, c16⟩
      have h1 := of_decide_eq_false h1
      refine ⟨t.ins, held_Lw (o16.cell rfl), ix fun a q1 => ⟨x, q1, ?_⟩⟩
      refine (ht.ins.no k16).ix (i := x) (by omega) (insAt_ix (by omega) (by omega)) fun a' _ hcell' => ?_
      have q2 := hcell' 0 _ rfl
      rw [add0] at q2
      refine ⟨_, held_Lw q2, (rgives_any _ _).mono ?_⟩
      rintro e w27 ⟨rfl, rfl⟩
      refine ⟨_, rfl, ⟨fun h => ⟨by omega, by omega, by simpa using h⟩, fun h => by rw [h.2.2]; rfl⟩, c16⟩
  · have hlt : j = xs.length := by simp at hlt; omega
    subst hlt
    rw [List.take_length] at hn
    exact ⟨true, rfl, ⟨fun _ => hn, fun _ => rfl⟩, trN c13 c14⟩
theorem rout_any {D : Nat → Prop} {w : World} (t : TrP) {v : TrG} (ht : TrIs D w t v) (x : Int) {k : Nat} (hk : k ≤ v.ins.length) :
    Calls Tryz.prog fn_hollowayref15_out #[.agg (trP t).toArray, .int .i64 x, .int .i64 (k : Int)] w fun e w' => ∃ b : Bool, e = .returned (.bool b) ∧ (b = true ↔ OutV v x k) ∧ Chg No w w' := by
  refine (hollowayref15_out_lift (K := fun r w' => ∃ b : Bool, r = .bool b ∧ (b = true ↔ OutV v x k) ∧ Chg No w w') ?_).mono (by rintro e w' ⟨r, rfl, b, rfl, h⟩; exact ⟨b, rfl, h⟩)
  unfold hollowayref15_out_sh
  intro b12 w13 hb12 hw13 w14 hw14
  have o13 : Ob w13 b12 (trP t) T_api_Trace := by rw [hw13, hb12]; exact Ob.new w (trP t) T_api_Trace
  have c13 := al hw13
  have c14 := dw hw14
  have o14 := o13.no c14
  have k14 := trN c13 c14
  have hd : ∀ {j : Nat} {u : Value}, (trP t)[j]? = some u → held (fun w' => Chg No w14 w') ⟨b12, j, none⟩ u := fun h => Ob.held (fun w' c => o14.no c) h
  obtain ⟨os, hos, hov⟩ := ht.outs
  have hol := hos.len
  have hovl := hov.1
  refine ⟨fun w' => Chg No w14 w', Chg.refl _ _, brB_of (fun h0 => ?_) (fun h0 => ⟨false, rfl, ⟨(fun h => by cases h), fun h => ?_⟩, k14⟩)⟩
  rotate_left
  · have h0 := of_decide_eq_false h0
    exact absurd h.1 h0
  have h0 := of_decide_eq_true h0
  refine ⟨t.outs, hd rfl, brB_of (fun h1 => ?_) (fun h1 => ⟨false, rfl, ⟨(fun h => by cases h), fun h => ?_⟩, k14⟩)⟩
  rotate_left
  · have h1 := of_decide_eq_false h1
    have := h.2.1
    omega
  have h1 := of_decide_eq_true h1
  have hxl : x < v.outs.length := by omega
  obtain ⟨o, ho⟩ : ∃ o, os[x.toNat]? = some o := ⟨_, List.getElem?_eq_getElem (by omega)⟩
  obtain ⟨_, _, u3, u4, _, _⟩ := hov.2 _ _ _ ho (outAt_ix h0 hxl)
  have ix : ∀ {j : Nat} {u : Value} {G : Addr → Prop}, (ouC o)[j]? = some u → (∀ a, held (fun w' => Chg No w14 w') (Addr.add (Addr.add a (Int.toNat x * 4)) j) u → G a) → ∃ a : Addr, t.outs.ptr = some a ∧ 0 ≤ x ∧ x < (t.outs.len : Int) ∧ G a := fun hj kk =>
    (hos.no k14).ix h0 ho fun a ha hcell => kk a fun w' c => by
      obtain ⟨a2, ha2, hc2⟩ := ((hos.no k14).no c).at ho
      rw [ha] at ha2; cases ha2
      exact hc2 _ _ hj
  refine ⟨_, _, _, _, _, _, _, _, _, hd rfl, hd rfl, hd rfl, hd rfl, hd rfl, hd rfl, hd rfl, hd rfl, hd rfl, t.outs, hd rfl, ix (j := 2) rfl fun a q => ⟨o.stack, q, ?_⟩⟩
  refine (rnamed_any t (ht.no k14) (u3.no k14) hk).mono ?_
  rintro e w30 ⟨b, rfl, hb, c30⟩
  refine ⟨b, rfl, c30, brB_of (fun hbt => ?_) (fun hbf => ⟨false, rfl, ⟨fun h => (by cases h), fun h => ?_⟩, trN k14 c30⟩)⟩
  rotate_left
  · have := hb.2 h.2.2.1
    rw [this] at hbf; cases hbf
  refine ⟨_, _, _, _, _, _, _, _, _, hd rfl, hd rfl, hd rfl, hd rfl, hd rfl, hd rfl, hd rfl, hd rfl, hd rfl, t.outs, hd rfl, ix (j := 3) rfl fun a q => ⟨o.back, q, ?_⟩⟩
  refine (rnamed_any t (ht.no (trN k14 c30)) (u4.no (trN k14 c30)) hk).mono ?_
  rintro e w45 ⟨b2, rfl, hb2, c45⟩
  exact ⟨b2, rfl, b2, rfl, ⟨fun h => ⟨h0, hxl, hb.1 hbt, hb2.1 h⟩, fun h => hb2.2 h.2.2.2⟩, trN (trN k14 c30) c45⟩
theorem rmay_any {D D' : Nat → Prop} {w : World} (t : TrP) (S : StC) {v : TrG} {s : StV} (ht : TrIs D w t v) (h : StIs D' w S s) (h1 : 0 ≤ v.grow ∧ v.grow ≤ 1000000) (h2 : 0 ≤ v.growBack ∧ v.growBack ≤ 1000000) (h3 : s.stack.length ≤ 1000000) (h4 : s.back.length ≤ 1000000) :
    Calls Tryz.prog fn_hollowayref15_May #[.agg (trP t).toArray, .agg (stC S).toArray] w fun e w' => e = .returned (.bool (mayV v s)) ∧ Chg No w w' := by
  refine (hollowayref15_May_lift (K := fun r w' => r = .bool (mayV v s) ∧ Chg No w w') ?_).mono (by rintro e w' ⟨r, rfl, rfl, h⟩; exact ⟨rfl, h⟩)
  unfold hollowayref15_May_sh
  intro b20 w21 hb20 hw21 b22 w23 hb22 hw23
  have o21 : Ob w21 b20 (trP t) T_api_Trace := by rw [hw21, hb20]; exact Ob.new w (trP t) T_api_Trace
  have o22 : Ob w23 b22 (stC S) T_api_State := by rw [hw23, hb22]; exact Ob.new w21 (stC S) T_api_State
  have o23 := o21.no (al hw23)
  have c23 := trN (al hw21) (al hw23)
  obtain ⟨n1, n2, n3, n4, n5, n6⟩ := ht.nums
  obtain ⟨m1, m2, m3, m4, m5, m6, m7⟩ := h.nums
  have l1 := h.st.len
  have l2 := h.bk.len
  have no : ¬ (s.status = 0 ∧ s.ip = v.start ∧ v.slots ≤ s.stack.length ∧ (s.stack.length : Int) + v.grow ≤ 48 ∧ v.backs ≤ s.back.length ∧ (s.back.length : Int) + v.growBack ≤ 48) → Value.bool false = .bool (mayV v s) := fun hh => by rw [show mayV v s = false from decide_eq_false hh]
  refine ⟨S.status, o22.cell rfl, brB_of (fun hb1 => ?_) (fun hb1 => ⟨no fun hh => ?_, c23⟩)⟩
  rotate_left
  · have : S.status ≠ 0 := by simpa using hb1
    omega
  have hb1 : S.status = 0 := by simpa using hb1
  refine ⟨S.ip, o22.cell rfl, t.start, o23.cell rfl, brB_of (fun hb2 => ?_) (fun hb2 => ⟨no fun hh => ?_, c23⟩)⟩
  rotate_left
  · have : S.ip ≠ t.start := by simpa using hb2
    omega
  have hb2 : S.ip = t.start := by simpa using hb2
  refine ⟨S.stack, o22.cell rfl, t.slots, o23.cell rfl, brB_of (fun hb3 => ?_) (fun hb3 => ⟨no fun hh => ?_, c23⟩)⟩
  rotate_left
  · have := of_decide_eq_false hb3
    omega
  have hb3 := of_decide_eq_true hb3
  refine ⟨S.stack, o22.cell rfl, t.grow, o23.cell rfl, ?_⟩
  rw [wr_in (x := (S.stack.len : Int) + t.grow) (by omega)]
  refine brB_of (fun hb4 => ?_) (fun hb4 => ⟨no fun hh => ?_, c23⟩)
  rotate_left
  · have := of_decide_eq_false hb4
    omega
  have hb4 := of_decide_eq_true hb4
  refine ⟨S.back, o22.cell rfl, t.backs, o23.cell rfl, brB_of (fun hb5 => ?_) (fun hb5 => ⟨no fun hh => ?_, c23⟩)⟩
  rotate_left
  · have := of_decide_eq_false hb5
    omega
  have hb5 := of_decide_eq_true hb5
  refine ⟨S.back, o22.cell rfl, t.growBack, o23.cell rfl, ?_, c23⟩
  rw [wr_in (x := (S.back.len : Int) + t.growBack) (by omega)]
  congr 1
  unfold mayV
  rw [Bool.eq_iff_iff]; simp; omega
end Go.Proofs.YtblmoilneiffgaaGreat

/- The document's own answer to traces (hollowayref15): which traces may be. -/
set_option maxRecDepth 100000
namespace Go.Proofs.YtblmoilneiffgaaGreat
open Go.RowKit

def EachA (t : TrG) (k : Nat) (i : In5) : Prop :=
  (1 ≤ i.a ∧ i.a ≤ 12) ∧ (i.a = 4 → Cn.risTwo i.b = true ∨ Cn.risOne i.b = true) ∧ (i.a = 2 → 0 ≤ i.b ∧ i.b ≤ t.slots - 1) ∧ (i.a = 3 → 0 ≤ i.b ∧ i.b ≤ t.backs - 1) ∧ NamedV t (usesV i) k
theorem wi_no {x m : Int} (h : (!decide (0 ≤ x ∧ x ≤ m)) = true) : ¬ (0 ≤ x ∧ x ≤ m) := by rw [Bool.not_eq_true'] at h; exact of_decide_eq_false h
theorem wi_yes {x m : Int} (h : (!decide (0 ≤ x ∧ x ≤ m)) = false) : 0 ≤ x ∧ x ≤ m := by rw [Bool.not_eq_false'] at h; exact of_decide_eq_true h
theorem eachV_iff {t : TrG} {k : Nat} {i : In5} : EachV t k i ↔ EachA t k i ∧ ∀ x ∈ outsV i, OutV t x k :=
  ⟨fun ⟨a, b, c, d, e, f⟩ => ⟨⟨a, b, c, d, e⟩, f⟩, fun ⟨⟨a, b, c, d, e⟩, f⟩ => ⟨a, b, c, d, e, f⟩⟩
theorem rright_any {D : Nat → Prop} {w : World} (t : TrP) {v : TrG} (ht : TrIs D w t v) :
    Calls Tryz.prog fn_hollowayref15_Right #[.agg (trP t).toArray] w fun e w' => ∃ b : Bool, e = .returned (.bool b) ∧ (b = true ↔ RightV v) ∧ Chg No w w' := by
  refine (hollowayref15_Right_lift (K := fun r w' => ∃ b : Bool, r = .bool b ∧ (b = true ↔ RightV v) ∧ Chg No w w') ?_).mono (by rintro e w' ⟨r, rfl, b, rfl, h⟩; exact ⟨b, rfl, h⟩)
  unfold hollowayref15_Right_sh
  intro b10 w11 hb10 hw11
  have o11 : Ob w11 b10 (trP t) T_api_Trace := by rw [hw11, hb10]; exact Ob.new w (trP t) T_api_Trace
  have c11 := al hw11
  have hil := ht.ins.len
  have hic := ht.ins.capL
  obtain ⟨os, hos, hov⟩ := ht.outs
  have hol := hos.len
  have hoc := hos.capL
  have hovl := hov.1
  have hcl := ht.cells.len
  have hcc := ht.cells.capL
  obtain ⟨n1, n2, n3, n4, n5, n6⟩ := ht.nums
  have no : ∀ {w' : World}, Chg No w w' → ¬ RightV v → ∃ b : Bool, Value.bool false = .bool b ∧ (b = true ↔ RightV v) ∧ Chg No w w' := fun c h => ⟨false, rfl, ⟨(fun h => by cases h), fun h' => absurd h' h⟩, c⟩
  refine ⟨fun b w' => (b = false ↔ HeadV v) ∧ Chg No w11 w', ?_, ?_⟩
  · rintro b w34 ⟨hb, c34⟩
    have k34 := trN c11 c34
    refine brB_of (fun hbt => no k34 fun h => ?_) (fun hbf => ?_)
    · rw [hb.2 h.head] at hbt; cases hbt
    have hhead := hb.1 hbf
    obtain ⟨q1, q2, q3, q4, q5, q6, q7⟩ := hhead
    refine ⟨fun n w' => ∃ k : Nat, n = k ∧ k ≤ v.ins.length ∧ (∀ (j : Nat) (i : In5), j < k → v.ins[j]? = some i → EachV v j i) ∧ Chg No w11 w', fun n _ => v.ins.length - n.toNat, ⟨0, rfl, Nat.zero_le _, fun j i h => by omega, c34⟩, ?_⟩
    rintro n w36 ⟨k, rfl, hk, hall, c36⟩
    have k36 := trN c11 c36
    have o36 := o11.no c36
    refine ⟨t.ins, o36.cell rfl, brB_of (fun hlt => ?_) (fun hlt => ?_)⟩
    · have hlt : k < v.ins.length := by simp at hlt; omega
      obtain ⟨i, hiv⟩ : ∃ i, v.ins[k]? = some i := ⟨_, List.getElem?_eq_getElem hlt⟩
      refine ⟨t.ins, o36.cell rfl, (ht.ins.no k36).ix (i := (k : Int)) (by omega) (by rw [Int.toNat_natCast]; exact hiv) fun a _ hcell => ?_⟩
      have g0 := hcell 0 _ rfl
      rw [add0] at g0
      refine ⟨_, _, _, _, _, g0, hcell 1 _ rfl, hcell 2 _ rfl, hcell 3 _ rfl, hcell 4 _ rfl, ?_⟩
      intro b46 w47 hb46 hw47
      have hn := fun (w2 : World) => newOb (w2 := w2) (T := T_api_Ins) (insC ⟨0, 0, 0, 0, 0⟩) (insC i) rfl hb46 hw47
      refine ⟨(hn w47).1, fun w48 hw48 => ?_⟩
      obtain ⟨o48, c48⟩ := (hn w48).2 hw48
      have k48 := trN k36 c48
      have z46 : b46 < w48.heap.size := o48.lt
      refine ⟨fun b w' => (b = false ↔ EachA v k i) ∧ Chg No w48 w', ?_, ?_⟩
      · rintro b w356 ⟨hb, c356⟩
        have k356 := trN k48 c356
        refine brB_of (fun hbt => no k356 fun h => ?_) (fun hbf => ?_)
        · rw [hb.2 (eachV_iff.1 (h.each k i hiv)).1] at hbt; cases hbt
        have hA := hb.1 hbf
        have o356 := o48.no c356
        refine ⟨_, _, _, _, _, o356.cell rfl, o356.cell rfl, o356.cell rfl, o356.cell rfl, o356.cell rfl, (routs_any i w356).mono ?_⟩
        rintro e w364 ⟨r, rfl, s365, rfl, g365, c364, _⟩
        have hsl := g365.rd.len
        have hsc := g365.rd.capL
        refine ⟨s365, rfl, fun n w' => ∃ j : Nat, n = j ∧ j ≤ (outsV i).length ∧ (∀ x ∈ (outsV i).take j, OutV v x k) ∧ Chg No w364 w', fun n _ => (outsV i).length - n.toNat, ⟨0, rfl, Nat.zero_le _, fun x hx => by simp at hx, Chg.refl _ _⟩, ?_⟩
        rintro n w366 ⟨j, rfl, hj, hout, c366⟩
        have k366 := trN (trN k356 c364) c366
        refine brB_of (fun hlt2 => ?_) (fun hlt2 => ?_)
        · have hlt2 : j < (outsV i).length := by simp at hlt2; omega
          obtain ⟨x, hx⟩ : ∃ x, (outsV i)[j]? = some x := ⟨_, List.getElem?_eq_getElem hlt2⟩
          intro w368 hw368
          have c368 := dw hw368
          have k368 := trN k366 c368
          have o368 := o11.no (trN (trN (trN (trN (trN c36 c48) c356) c364) c366) c368)
          refine ⟨_, _, _, _, _, _, _, _, _, held_Lw (o368.cell rfl), held_Lw (o368.cell rfl), held_Lw (o368.cell rfl), held_Lw (o368.cell rfl), held_Lw (o368.cell rfl), held_Lw (o368.cell rfl), held_Lw (o368.cell rfl), held_Lw (o368.cell rfl), held_Lw (o368.cell rfl), ?_⟩
          refine ((g365.no c366).no c368).rd.ix (i := (j : Int)) (by omega) (by rw [Int.toNat_natCast]; exact hx) fun a _ hcell' => ?_
          have q1 := hcell' 0 _ rfl
          rw [add0] at q1
          refine ⟨x, held_Lw q1, (rout_any t (ht.no k368) x (by omega)).mono ?_⟩
          rintro e w381 ⟨b2, rfl, hb2, c381⟩
          refine ⟨b2, rfl, brB_of (fun hn => no (trN k368 c381) fun h => ?_) (fun hn => ?_)⟩
          · have := hb2.2 ((h.each k i hiv).2.2.2.2.2 x (List.mem_of_getElem? hx))
            rw [this] at hn; cases hn
          · have hn : b2 = true := by simpa using hn
            rw [wr_in (by omega)]
            refine ⟨⟨j + 1, by omega, by omega, fun y hy => ?_, trN (trN c366 c368) c381⟩, by show (outsV i).length - Int.toNat ((j : Int) + 1) < (outsV i).length - Int.toNat (j : Int); omega⟩
            rw [List.take_add_one, hx] at hy
            rcases List.mem_append.1 hy with hy | hy
            · exact hout y hy
            · have : y = x := by simpa using hy
              rw [this]; exact hb2.1 hn
        · have hlt2 : j = (outsV i).length := by simp at hlt2; omega
          subst hlt2
          rw [List.take_length] at hout
          rw [wr_in (by omega)]
          refine ⟨⟨k + 1, by omega, by omega, fun j i' hj hi' => ?_, trN (trN (trN (trN c36 c48) c356) c364) c366⟩, by show v.ins.length - Int.toNat ((k : Int) + 1) < v.ins.length - Int.toNat (k : Int); omega⟩
          by_cases hjk : j = k
          · subst hjk
            rw [hiv] at hi'; cases hi'
            exact eachV_iff.2 ⟨hA, hout⟩
          · exact hall j i' (by omega) hi'
      · intro w49 hw49
        have c49 := dw hw49
        have k49 := trN k48 c49
        have o49 := o48.no c49
        have ot49 := (o36.no c48).no c49
        have hd : ∀ {j : Nat} {u : Value}, (trP t)[j]? = some u → held (fun w' => Chg No w49 w') ⟨b10, j, none⟩ u := fun h => Ob.held (fun w' c => ot49.no c) h
        have hi : ∀ {j : Nat} {u : Value}, (insC i)[j]? = some u → held (fun w' => Chg No w49 w') ⟨b46, j, none⟩ u := fun h => Ob.held (fun w' c => o49.no c) h
        have eqb : ∀ {n : Int}, (i.a == n) = true → i.a = n := fun h => by simpa using h
        have neb : ∀ {n : Int}, (i.a == n) = false → i.a ≠ n := fun h => by simpa using h
        have bad : ¬ EachA v k i → (true = false ↔ EachA v k i) ∧ Chg No w48 w49 := fun h => ⟨⟨(fun h => by cases h), fun h' => absurd h' h⟩, c49⟩
        refine ⟨fun w' => Chg No w49 w', Chg.refl _ _, _, hi rfl, brB_of (fun ha => bad fun h => ?_) (fun ha => ?_)⟩
        · have ha := of_decide_eq_true ha
          have := h.1.1; omega
        have ha := of_decide_eq_false ha
        refine ⟨_, hi rfl, brB_of (fun hb => bad fun h => ?_) (fun hb => ?_)⟩
        · have hb := of_decide_eq_true hb
          have := h.1.2; omega
        have hb := of_decide_eq_false hb
        have h12 : 1 ≤ i.a ∧ i.a ≤ 12 := by omega
        refine ⟨_, hi rfl, brB_of (fun h4 => ?_) (fun h4 => ?_)⟩
        · have h4 := eqb h4
          refine ⟨_, hi rfl, (risTwo_any _ _).mono ?_⟩
          rintro e w56 ⟨rfl, rfl⟩
          refine ⟨_, rfl, Chg.refl _ _, brB_of (fun h5 => ?_) (fun h5 => ?_)⟩
          · have h5 : Cn.risTwo i.b = false := by simpa using h5
            refine ⟨_, hi rfl, (risOne_any _ _).mono ?_⟩
            rintro e w60 ⟨rfl, rfl⟩
            refine ⟨_, rfl, Chg.refl _ _, brB_of (fun h6 => bad fun h => ?_) (fun h6 => ?_)⟩
            · have h6 : Cn.risOne i.b = false := by simpa using h6
              rcases h.2.1 h4 with h' | h'
              · rw [h5] at h'; cases h'
              · rw [h6] at h'; cases h'
            have hop : i.a = 4 → Cn.risTwo i.b = true ∨ Cn.risOne i.b = true := fun _ => Or.inr (by simpa using h6)
            refine ⟨_, hi rfl, brB_of (fun h2 => ?_) (fun h2 => ?_)⟩
            · have h2 := eqb h2
              refine ⟨_, hi rfl, _, hd rfl, ?_⟩
              rw [ht.nums.2.1, wr_in (x := v.slots - 1) (by omega)]
              refine (within_any _ _ _).mono ?_
              rintro e w60 ⟨rfl, rfl⟩
              refine ⟨_, rfl, Chg.refl _ _, brB_of (fun hw => bad fun h => ?_) (fun hw => ?_)⟩
              · have hw : ¬ (0 ≤ i.b ∧ i.b ≤ v.slots - 1) := wi_no hw
                exact hw (h.2.2.1 h2)
              have hsl : i.a = 2 → 0 ≤ i.b ∧ i.b ≤ v.slots - 1 := fun _ => by simpa using hw
              refine ⟨_, hi rfl, brB_of (fun h3 => ?_) (fun h3 => ?_)⟩
              · have h3 := eqb h3
                refine ⟨_, hi rfl, _, hd rfl, ?_⟩
                rw [ht.nums.2.2.1, wr_in (x := v.backs - 1) (by omega)]
                refine (within_any _ _ _).mono ?_
                rintro e w66 ⟨rfl, rfl⟩
                refine ⟨_, rfl, Chg.refl _ _, brB_of (fun hw => bad fun h => ?_) (fun hw => ?_)⟩
                · have hw : ¬ (0 ≤ i.b ∧ i.b ≤ v.backs - 1) := wi_no hw
                  exact hw (h.2.2.2.1 h3)
                have hbk : i.a = 3 → 0 ≤ i.b ∧ i.b ≤ v.backs - 1 := fun _ => by simpa using hw
                refine ⟨_, _, _, _, _, _, _, _, _, hd rfl, hd rfl, hd rfl, hd rfl, hd rfl, hd rfl, hd rfl, hd rfl, hd rfl, _, _, _, _, _, hi rfl, hi rfl, hi rfl, hi rfl, hi rfl, (ruses_any i w49).mono ?_⟩
                rintro e w89 ⟨r, rfl, s90, rfl, g90, c89, _⟩
                refine ⟨s90, rfl, c89, (rnamed_any t (ht.no (trN k49 c89)) g90.rd (by omega)).mono ?_⟩
                rintro e w92 ⟨b, rfl, hb, c92⟩
                exact ⟨b, rfl, ⟨fun h => ⟨h12, hop, hsl, hbk, hb.1 (by simpa using h)⟩, fun h => by rw [hb.2 h.2.2.2.2]; rfl⟩, trN c49 (trN c89 c92)⟩
              have h3 := neb h3
              have hbk : i.a = 3 → 0 ≤ i.b ∧ i.b ≤ v.backs - 1 := fun h => absurd h h3
              refine ⟨_, _, _, _, _, _, _, _, _, hd rfl, hd rfl, hd rfl, hd rfl, hd rfl, hd rfl, hd rfl, hd rfl, hd rfl, _, _, _, _, _, hi rfl, hi rfl, hi rfl, hi rfl, hi rfl, (ruses_any i w49).mono ?_⟩
              rintro e w89 ⟨r, rfl, s90, rfl, g90, c89, _⟩
              refine ⟨s90, rfl, c89, (rnamed_any t (ht.no (trN k49 c89)) g90.rd (by omega)).mono ?_⟩
              rintro e w92 ⟨b, rfl, hb, c92⟩
              exact ⟨b, rfl, ⟨fun h => ⟨h12, hop, hsl, hbk, hb.1 (by simpa using h)⟩, fun h => by rw [hb.2 h.2.2.2.2]; rfl⟩, trN c49 (trN c89 c92)⟩
            have h2 := neb h2
            have hsl : i.a = 2 → 0 ≤ i.b ∧ i.b ≤ v.slots - 1 := fun h => absurd h h2
            refine ⟨_, hi rfl, brB_of (fun h3 => ?_) (fun h3 => ?_)⟩
            · have h3 := eqb h3
              refine ⟨_, hi rfl, _, hd rfl, ?_⟩
              rw [ht.nums.2.2.1, wr_in (x := v.backs - 1) (by omega)]
              refine (within_any _ _ _).mono ?_
              rintro e w66 ⟨rfl, rfl⟩
              refine ⟨_, rfl, Chg.refl _ _, brB_of (fun hw => bad fun h => ?_) (fun hw => ?_)⟩
              · have hw : ¬ (0 ≤ i.b ∧ i.b ≤ v.backs - 1) := wi_no hw
                exact hw (h.2.2.2.1 h3)
              have hbk : i.a = 3 → 0 ≤ i.b ∧ i.b ≤ v.backs - 1 := fun _ => by simpa using hw
              refine ⟨_, _, _, _, _, _, _, _, _, hd rfl, hd rfl, hd rfl, hd rfl, hd rfl, hd rfl, hd rfl, hd rfl, hd rfl, _, _, _, _, _, hi rfl, hi rfl, hi rfl, hi rfl, hi rfl, (ruses_any i w49).mono ?_⟩
              rintro e w89 ⟨r, rfl, s90, rfl, g90, c89, _⟩
              refine ⟨s90, rfl, c89, (rnamed_any t (ht.no (trN k49 c89)) g90.rd (by omega)).mono ?_⟩
              rintro e w92 ⟨b, rfl, hb, c92⟩
              exact ⟨b, rfl, ⟨fun h => ⟨h12, hop, hsl, hbk, hb.1 (by simpa using h)⟩, fun h => by rw [hb.2 h.2.2.2.2]; rfl⟩, trN c49 (trN c89 c92)⟩
            have h3 := neb h3
            have hbk : i.a = 3 → 0 ≤ i.b ∧ i.b ≤ v.backs - 1 := fun h => absurd h h3
            refine ⟨_, _, _, _, _, _, _, _, _, hd rfl, hd rfl, hd rfl, hd rfl, hd rfl, hd rfl, hd rfl, hd rfl, hd rfl, _, _, _, _, _, hi rfl, hi rfl, hi rfl, hi rfl, hi rfl, (ruses_any i w49).mono ?_⟩
            rintro e w89 ⟨r, rfl, s90, rfl, g90, c89, _⟩
            refine ⟨s90, rfl, c89, (rnamed_any t (ht.no (trN k49 c89)) g90.rd (by omega)).mono ?_⟩
            rintro e w92 ⟨b, rfl, hb, c92⟩
            exact ⟨b, rfl, ⟨fun h => ⟨h12, hop, hsl, hbk, hb.1 (by simpa using h)⟩, fun h => by rw [hb.2 h.2.2.2.2]; rfl⟩, trN c49 (trN c89 c92)⟩
          · have hop : i.a = 4 → Cn.risTwo i.b = true ∨ Cn.risOne i.b = true := fun _ => Or.inl (by simpa using h5)
            refine ⟨_, hi rfl, brB_of (fun h2 => ?_) (fun h2 => ?_)⟩
            · have h2 := eqb h2
              refine ⟨_, hi rfl, _, hd rfl, ?_⟩
              rw [ht.nums.2.1, wr_in (x := v.slots - 1) (by omega)]
              refine (within_any _ _ _).mono ?_
              rintro e w60 ⟨rfl, rfl⟩
              refine ⟨_, rfl, Chg.refl _ _, brB_of (fun hw => bad fun h => ?_) (fun hw => ?_)⟩
              · have hw : ¬ (0 ≤ i.b ∧ i.b ≤ v.slots - 1) := wi_no hw
                exact hw (h.2.2.1 h2)
              have hsl : i.a = 2 → 0 ≤ i.b ∧ i.b ≤ v.slots - 1 := fun _ => by simpa using hw
              refine ⟨_, hi rfl, brB_of (fun h3 => ?_) (fun h3 => ?_)⟩
              · have h3 := eqb h3
                refine ⟨_, hi rfl, _, hd rfl, ?_⟩
                rw [ht.nums.2.2.1, wr_in (x := v.backs - 1) (by omega)]
                refine (within_any _ _ _).mono ?_
                rintro e w66 ⟨rfl, rfl⟩
                refine ⟨_, rfl, Chg.refl _ _, brB_of (fun hw => bad fun h => ?_) (fun hw => ?_)⟩
                · have hw : ¬ (0 ≤ i.b ∧ i.b ≤ v.backs - 1) := wi_no hw
                  exact hw (h.2.2.2.1 h3)
                have hbk : i.a = 3 → 0 ≤ i.b ∧ i.b ≤ v.backs - 1 := fun _ => by simpa using hw
                refine ⟨_, _, _, _, _, _, _, _, _, hd rfl, hd rfl, hd rfl, hd rfl, hd rfl, hd rfl, hd rfl, hd rfl, hd rfl, _, _, _, _, _, hi rfl, hi rfl, hi rfl, hi rfl, hi rfl, (ruses_any i w49).mono ?_⟩
                rintro e w89 ⟨r, rfl, s90, rfl, g90, c89, _⟩
                refine ⟨s90, rfl, c89, (rnamed_any t (ht.no (trN k49 c89)) g90.rd (by omega)).mono ?_⟩
                rintro e w92 ⟨b, rfl, hb, c92⟩
                exact ⟨b, rfl, ⟨fun h => ⟨h12, hop, hsl, hbk, hb.1 (by simpa using h)⟩, fun h => by rw [hb.2 h.2.2.2.2]; rfl⟩, trN c49 (trN c89 c92)⟩
              have h3 := neb h3
              have hbk : i.a = 3 → 0 ≤ i.b ∧ i.b ≤ v.backs - 1 := fun h => absurd h h3
              refine ⟨_, _, _, _, _, _, _, _, _, hd rfl, hd rfl, hd rfl, hd rfl, hd rfl, hd rfl, hd rfl, hd rfl, hd rfl, _, _, _, _, _, hi rfl, hi rfl, hi rfl, hi rfl, hi rfl, (ruses_any i w49).mono ?_⟩
              rintro e w89 ⟨r, rfl, s90, rfl, g90, c89, _⟩
              refine ⟨s90, rfl, c89, (rnamed_any t (ht.no (trN k49 c89)) g90.rd (by omega)).mono ?_⟩
              rintro e w92 ⟨b, rfl, hb, c92⟩
              exact ⟨b, rfl, ⟨fun h => ⟨h12, hop, hsl, hbk, hb.1 (by simpa using h)⟩, fun h => by rw [hb.2 h.2.2.2.2]; rfl⟩, trN c49 (trN c89 c92)⟩
            have h2 := neb h2
            have hsl : i.a = 2 → 0 ≤ i.b ∧ i.b ≤ v.slots - 1 := fun h => absurd h h2
            refine ⟨_, hi rfl, brB_of (fun h3 => ?_) (fun h3 => ?_)⟩
            · have h3 := eqb h3
              refine ⟨_, hi rfl, _, hd rfl, ?_⟩
              rw [ht.nums.2.2.1, wr_in (x := v.backs - 1) (by omega)]
              refine (within_any _ _ _).mono ?_
              rintro e w66 ⟨rfl, rfl⟩
              refine ⟨_, rfl, Chg.refl _ _, brB_of (fun hw => bad fun h => ?_) (fun hw => ?_)⟩
              · have hw : ¬ (0 ≤ i.b ∧ i.b ≤ v.backs - 1) := wi_no hw
                exact hw (h.2.2.2.1 h3)
              have hbk : i.a = 3 → 0 ≤ i.b ∧ i.b ≤ v.backs - 1 := fun _ => by simpa using hw
              refine ⟨_, _, _, _, _, _, _, _, _, hd rfl, hd rfl, hd rfl, hd rfl, hd rfl, hd rfl, hd rfl, hd rfl, hd rfl, _, _, _, _, _, hi rfl, hi rfl, hi rfl, hi rfl, hi rfl, (ruses_any i w49).mono ?_⟩
              rintro e w89 ⟨r, rfl, s90, rfl, g90, c89, _⟩
              refine ⟨s90, rfl, c89, (rnamed_any t (ht.no (trN k49 c89)) g90.rd (by omega)).mono ?_⟩
              rintro e w92 ⟨b, rfl, hb, c92⟩
              exact ⟨b, rfl, ⟨fun h => ⟨h12, hop, hsl, hbk, hb.1 (by simpa using h)⟩, fun h => by rw [hb.2 h.2.2.2.2]; rfl⟩, trN c49 (trN c89 c92)⟩
            have h3 := neb h3
            have hbk : i.a = 3 → 0 ≤ i.b ∧ i.b ≤ v.backs - 1 := fun h => absurd h h3
            refine ⟨_, _, _, _, _, _, _, _, _, hd rfl, hd rfl, hd rfl, hd rfl, hd rfl, hd rfl, hd rfl, hd rfl, hd rfl, _, _, _, _, _, hi rfl, hi rfl, hi rfl, hi rfl, hi rfl, (ruses_any i w49).mono ?_⟩
            rintro e w89 ⟨r, rfl, s90, rfl, g90, c89, _⟩
            refine ⟨s90, rfl, c89, (rnamed_any t (ht.no (trN k49 c89)) g90.rd (by omega)).mono ?_⟩
            rintro e w92 ⟨b, rfl, hb, c92⟩
            exact ⟨b, rfl, ⟨fun h => ⟨h12, hop, hsl, hbk, hb.1 (by simpa using h)⟩, fun h => by rw [hb.2 h.2.2.2.2]; rfl⟩, trN c49 (trN c89 c92)⟩
        · have h4 := neb h4
          have hop : i.a = 4 → Cn.risTwo i.b = true ∨ Cn.risOne i.b = true := fun h => absurd h h4
          refine ⟨_, hi rfl, brB_of (fun h2 => ?_) (fun h2 => ?_)⟩
          · have h2 := eqb h2
            refine ⟨_, hi rfl, _, hd rfl, ?_⟩
            rw [ht.nums.2.1, wr_in (x := v.slots - 1) (by omega)]
            refine (within_any _ _ _).mono ?_
            rintro e w60 ⟨rfl, rfl⟩
            refine ⟨_, rfl, Chg.refl _ _, brB_of (fun hw => bad fun h => ?_) (fun hw => ?_)⟩
            · have hw : ¬ (0 ≤ i.b ∧ i.b ≤ v.slots - 1) := wi_no hw
              exact hw (h.2.2.1 h2)
            have hsl : i.a = 2 → 0 ≤ i.b ∧ i.b ≤ v.slots - 1 := fun _ => by simpa using hw
            refine ⟨_, hi rfl, brB_of (fun h3 => ?_) (fun h3 => ?_)⟩
            · have h3 := eqb h3
              refine ⟨_, hi rfl, _, hd rfl, ?_⟩
              rw [ht.nums.2.2.1, wr_in (x := v.backs - 1) (by omega)]
              refine (within_any _ _ _).mono ?_
              rintro e w66 ⟨rfl, rfl⟩
              refine ⟨_, rfl, Chg.refl _ _, brB_of (fun hw => bad fun h => ?_) (fun hw => ?_)⟩
              · have hw : ¬ (0 ≤ i.b ∧ i.b ≤ v.backs - 1) := wi_no hw
                exact hw (h.2.2.2.1 h3)
              have hbk : i.a = 3 → 0 ≤ i.b ∧ i.b ≤ v.backs - 1 := fun _ => by simpa using hw
              refine ⟨_, _, _, _, _, _, _, _, _, hd rfl, hd rfl, hd rfl, hd rfl, hd rfl, hd rfl, hd rfl, hd rfl, hd rfl, _, _, _, _, _, hi rfl, hi rfl, hi rfl, hi rfl, hi rfl, (ruses_any i w49).mono ?_⟩
              rintro e w89 ⟨r, rfl, s90, rfl, g90, c89, _⟩
              refine ⟨s90, rfl, c89, (rnamed_any t (ht.no (trN k49 c89)) g90.rd (by omega)).mono ?_⟩
              rintro e w92 ⟨b, rfl, hb, c92⟩
              exact ⟨b, rfl, ⟨fun h => ⟨h12, hop, hsl, hbk, hb.1 (by simpa using h)⟩, fun h => by rw [hb.2 h.2.2.2.2]; rfl⟩, trN c49 (trN c89 c92)⟩
            have h3 := neb h3
            have hbk : i.a = 3 → 0 ≤ i.b ∧ i.b ≤ v.backs - 1 := fun h => absurd h h3
            refine ⟨_, _, _, _, _, _, _, _, _, hd rfl, hd rfl, hd rfl, hd rfl, hd rfl, hd rfl, hd rfl, hd rfl, hd rfl, _, _, _, _, _, hi rfl, hi rfl, hi rfl, hi rfl, hi rfl, (ruses_any i w49).mono ?_⟩
            rintro e w89 ⟨r, rfl, s90, rfl, g90, c89, _⟩
            refine ⟨s90, rfl, c89, (rnamed_any t (ht.no (trN k49 c89)) g90.rd (by omega)).mono ?_⟩
            rintro e w92 ⟨b, rfl, hb, c92⟩
            exact ⟨b, rfl, ⟨fun h => ⟨h12, hop, hsl, hbk, hb.1 (by simpa using h)⟩, fun h => by rw [hb.2 h.2.2.2.2]; rfl⟩, trN c49 (trN c89 c92)⟩
          have h2 := neb h2
          have hsl : i.a = 2 → 0 ≤ i.b ∧ i.b ≤ v.slots - 1 := fun h => absurd h h2
          refine ⟨_, hi rfl, brB_of (fun h3 => ?_) (fun h3 => ?_)⟩
          · have h3 := eqb h3
            refine ⟨_, hi rfl, _, hd rfl, ?_⟩
            rw [ht.nums.2.2.1, wr_in (x := v.backs - 1) (by omega)]
            refine (within_any _ _ _).mono ?_
            rintro e w66 ⟨rfl, rfl⟩
            refine ⟨_, rfl, Chg.refl _ _, brB_of (fun hw => bad fun h => ?_) (fun hw => ?_)⟩
            · have hw : ¬ (0 ≤ i.b ∧ i.b ≤ v.backs - 1) := wi_no hw
              exact hw (h.2.2.2.1 h3)
            have hbk : i.a = 3 → 0 ≤ i.b ∧ i.b ≤ v.backs - 1 := fun _ => by simpa using hw
            refine ⟨_, _, _, _, _, _, _, _, _, hd rfl, hd rfl, hd rfl, hd rfl, hd rfl, hd rfl, hd rfl, hd rfl, hd rfl, _, _, _, _, _, hi rfl, hi rfl, hi rfl, hi rfl, hi rfl, (ruses_any i w49).mono ?_⟩
            rintro e w89 ⟨r, rfl, s90, rfl, g90, c89, _⟩
            refine ⟨s90, rfl, c89, (rnamed_any t (ht.no (trN k49 c89)) g90.rd (by omega)).mono ?_⟩
            rintro e w92 ⟨b, rfl, hb, c92⟩
            exact ⟨b, rfl, ⟨fun h => ⟨h12, hop, hsl, hbk, hb.1 (by simpa using h)⟩, fun h => by rw [hb.2 h.2.2.2.2]; rfl⟩, trN c49 (trN c89 c92)⟩
          have h3 := neb h3
          have hbk : i.a = 3 → 0 ≤ i.b ∧ i.b ≤ v.backs - 1 := fun h => absurd h h3
          refine ⟨_, _, _, _, _, _, _, _, _, hd rfl, hd rfl, hd rfl, hd rfl, hd rfl, hd rfl, hd rfl, hd rfl, hd rfl, _, _, _, _, _, hi rfl, hi rfl, hi rfl, hi rfl, hi rfl, (ruses_any i w49).mono ?_⟩
          rintro e w89 ⟨r, rfl, s90, rfl, g90, c89, _⟩
          refine ⟨s90, rfl, c89, (rnamed_any t (ht.no (trN k49 c89)) g90.rd (by omega)).mono ?_⟩
          rintro e w92 ⟨b, rfl, hb, c92⟩
          exact ⟨b, rfl, ⟨fun h => ⟨h12, hop, hsl, hbk, hb.1 (by simpa using h)⟩, fun h => by rw [hb.2 h.2.2.2.2]; rfl⟩, trN c49 (trN c89 c92)⟩
    · have hlt : k = v.ins.length := by simp at hlt; omega
      subst hlt
      refine ⟨fun n w' => ∃ k : Nat, n = k ∧ k ≤ v.outs.length ∧ (∀ (j : Nat) (o : OuV), j < k → v.outs[j]? = some o → ExitV v o) ∧ Chg No w11 w', fun n _ => v.outs.length - n.toNat, ⟨0, rfl, Nat.zero_le _, fun j i h => by omega, c36⟩, ?_⟩
      rintro n w383 ⟨k, rfl, hk, hexit, c383⟩
      have k383 := trN c11 c383
      have o383 := o11.no c383
      refine ⟨t.outs, o383.cell rfl, brB_of (fun hlt => ?_) (fun hlt => ?_)⟩
      · have hlt : k < v.outs.length := by simp at hlt; omega
        obtain ⟨o, ho⟩ : ∃ o, os[k]? = some o := ⟨_, List.getElem?_eq_getElem (by omega)⟩
        obtain ⟨ov, hovk⟩ : ∃ o, v.outs[k]? = some o := ⟨_, List.getElem?_eq_getElem hlt⟩
        obtain ⟨u1, u2, u3, u4, _, _⟩ := hov.2 _ _ _ ho hovk
        refine ⟨t.outs, o383.cell rfl, (hos.no k383).ix (i := (k : Int)) (by omega) (by rw [Int.toNat_natCast]; exact ho) fun a _ hcell => ?_⟩
        have g0 := hcell 0 _ rfl
        rw [add0] at g0
        refine ⟨_, _, _, _, g0, hcell 1 _ rfl, hcell 2 _ rfl, hcell 3 _ rfl, ?_⟩
        intro b392 w393 hb392 hw393
        have hn := fun (w2 : World) => newOb (w2 := w2) (T := T_api_Out) (ouC ⟨0, 0, nilS, nilS⟩) (ouC o) rfl hb392 hw393
        refine ⟨(hn w393).1, fun w394 hw394 => ?_⟩
        obtain ⟨o394, c394⟩ := (hn w394).2 hw394
        have ot := o383.no c394
        have k394 := trN k383 c394
        have l3 := u3.len
        have l4 := u4.len
        refine ⟨fun b w' => (b = false ↔ ExitV v ov) ∧ Chg No w394 w', ?_, ?_⟩
        · rintro b w409 ⟨hb, c409⟩
          refine brB_of (fun hbt => no (trN k394 c409) fun h => ?_) (fun hbf => ?_)
          · rw [hb.2 (h.exits k ov hovk)] at hbt; cases hbt
          rw [wr_in (by omega)]
          refine ⟨⟨k + 1, by omega, by omega, fun j o' hj ho' => ?_, trN (trN c383 c394) c409⟩, by show v.outs.length - Int.toNat ((k : Int) + 1) < v.outs.length - Int.toNat (k : Int); omega⟩
          by_cases hjk : j = k
          · subst hjk
            rw [hovk] at ho'; cases ho'
            exact hb.1 hbf
          · exact hexit j o' (by omega) ho'
        · have bad : ¬ ExitV v ov → (true = false ↔ ExitV v ov) ∧ Chg No w394 w394 := fun h => ⟨⟨(fun h => by cases h), fun h' => absurd h' h⟩, Chg.refl _ _⟩
          refine ⟨o.steps, o394.cell rfl, (within_any _ _ _).mono ?_⟩
          rintro e w397 ⟨rfl, rfl⟩
          refine ⟨_, rfl, brB_of (fun hw => bad fun h => ?_) (fun hw => ?_)⟩
          · have hw : ¬ (0 ≤ o.steps ∧ o.steps ≤ 120) := wi_no hw
            rw [u2] at hw; exact hw h.1
          have hw1 : 0 ≤ o.steps ∧ o.steps ≤ 120 := by simpa using hw
          refine ⟨o.ip, o394.cell rfl, (within_any _ _ _).mono ?_⟩
          rintro e w401 ⟨rfl, rfl⟩
          refine ⟨_, rfl, brB_of (fun hw => bad fun h => ?_) (fun hw => ?_)⟩
          · have hw : ¬ (0 ≤ o.ip ∧ o.ip ≤ 2999) := wi_no hw
            rw [u1] at hw; exact hw h.2.1
          have hw2 : 0 ≤ o.ip ∧ o.ip ≤ 2999 := by simpa using hw
          refine ⟨o.stack, o394.cell rfl, t.slots, ot.cell rfl, t.grow, ot.cell rfl, ?_⟩
          rw [wr_in (x := t.slots + t.grow) (by omega)]
          refine brB_of (fun hw => bad fun h => ?_) (fun hw => ?_)
          · have hw := of_decide_eq_true hw
            have := h.2.2.1
            omega
          have hw3 := of_decide_eq_false hw
          refine ⟨o.back, o394.cell rfl, t.backs, ot.cell rfl, t.growBack, ot.cell rfl, ?_⟩
          rw [wr_in (x := t.backs + t.growBack) (by omega)]
          refine ⟨⟨fun h => ⟨by omega, by omega, by omega, ?_⟩, fun h => ?_⟩, Chg.refl _ _⟩
          · have := of_decide_eq_false h
            omega
          · apply decide_eq_false
            have := h.2.2.2
            omega
      · have hlt : k = v.outs.length := by simp at hlt; omega
        subst hlt
        refine ⟨fun n w' => ∃ k : Nat, n = k ∧ k ≤ v.cells.length ∧ (∀ (j : Nat) (c : Int), j < k → v.cells[j]? = some c → (0 ≤ c ∧ c ≤ 2999) ∧ ∀ (m : Nat) (d : Int), j = m + 1 → v.cells[m]? = some d → d < c) ∧ Chg No w11 w', fun n _ => v.cells.length - n.toNat, ⟨0, rfl, Nat.zero_le _, fun j i h => by omega, c383⟩, ?_⟩
        rintro n w411 ⟨k, rfl, hk, hcell, c411⟩
        have k411 := trN c11 c411
        have o411 := o11.no c411
        refine ⟨t.cells, o411.cell rfl, brB_of (fun hlt => ?_) (fun hlt => ?_)⟩
        · have hlt : k < v.cells.length := by simp at hlt; omega
          obtain ⟨c, hc⟩ : ∃ c, v.cells[k]? = some c := ⟨_, List.getElem?_eq_getElem hlt⟩
          refine ⟨fun b w' => (b = false ↔ (0 ≤ c ∧ c ≤ 2999) ∧ ∀ (m : Nat) (d : Int), k = m + 1 → v.cells[m]? = some d → d < c) ∧ Chg No w411 w', ?_, ?_⟩
          · rintro b w428 ⟨hb, c428⟩
            refine brB_of (fun hbt => no (trN k411 c428) fun h => ?_) (fun hbf => ?_)
            · rw [hb.2 (h.cells k c hc)] at hbt; cases hbt
            rw [wr_in (by omega)]
            refine ⟨⟨k + 1, by omega, by omega, fun j c' hj hc' => ?_, trN c411 c428⟩, by show v.cells.length - Int.toNat ((k : Int) + 1) < v.cells.length - Int.toNat (k : Int); omega⟩
            by_cases hjk : j = k
            · subst hjk
              rw [hc] at hc'; cases hc'
              exact hb.1 hbf
            · exact hcell j c' (by omega) hc'
          · intro w414 hw414
            have c414 := dw hw414
            have k414 := trN k411 c414
            have o414 := o411.no c414
            have hd : ∀ {j : Nat} {u : Value}, (trP t)[j]? = some u → held (fun w' => Chg No w414 w') ⟨b10, j, none⟩ u := fun h => Ob.held (fun w' c => o414.no c) h
            have ix : ∀ {j : Nat} {x : Int} {G : Addr → Prop}, v.cells[j]? = some x → (∀ a, held (fun w' => Chg No w414 w') (Addr.add a (Int.toNat (j : Int) * 1)) (.int .i64 x) → G a) → ∃ a : Addr, t.cells.ptr = some a ∧ 0 ≤ (j : Int) ∧ (j : Int) < (t.cells.len : Int) ∧ G a := fun hj kk =>
              (ht.cells.no k414).ix (i := (_ : Nat)) (by omega) (by rw [Int.toNat_natCast]; exact hj) fun a ha hcell => kk a fun w' c => by
                obtain ⟨a2, ha2, hc2⟩ := ((ht.cells.no k414).no c).at hj
                rw [ha] at ha2; cases ha2
                have q := hc2 0 _ rfl
                rw [add0] at q; exact q
            refine ⟨fun w' => Chg No w414 w', Chg.refl _ _, t.cells, hd rfl, ix hc fun a q => ⟨c, q, (within_any _ _ _).mono ?_⟩⟩
            rintro e w420 ⟨rfl, rfl⟩
            refine ⟨_, rfl, Chg.refl _ _, brB_of (fun hw => ⟨⟨(fun h => by cases h), fun h => ?_⟩, c414⟩) (fun hw => ?_)⟩
            · have hw : ¬ (0 ≤ c ∧ c ≤ 2999) := wi_no hw
              exact absurd h.1 hw
            have hw : 0 ≤ c ∧ c ≤ 2999 := by simpa using hw
            refine brB_of (fun hk0 => ?_) (fun hk0 => ⟨⟨fun _ => ⟨hw, fun m d hm _ => ?_⟩, fun _ => rfl⟩, c414⟩)
            · have hk0 : 0 < k := by have := of_decide_eq_true hk0; omega
              obtain ⟨m, rfl⟩ : ∃ m, k = m + 1 := ⟨k - 1, by omega⟩
              obtain ⟨d, hdd⟩ : ∃ d, v.cells[m]? = some d := ⟨_, List.getElem?_eq_getElem (by omega)⟩
              rw [show wr (((m + 1 : Nat) : Int) - 1) = (m : Int) by rw [wr_in (by omega)]; omega]
              refine ⟨t.cells, hd rfl, ix hdd fun a q => ⟨d, q, t.cells, hd rfl, ix hc fun a q => ⟨c, q, ⟨fun h => ⟨hw, fun m' d' hm hd' => ?_⟩, fun h => ?_⟩, c414⟩⟩⟩
              · have := of_decide_eq_false h
                obtain rfl : m = m' := by omega
                rw [hdd] at hd'; cases hd'
                omega
              · apply decide_eq_false
                have := h.2 m d rfl hdd
                omega
            · have := of_decide_eq_false hk0
              omega
        · have hlt : k = v.cells.length := by simp at hlt; omega
          subst hlt
          refine ⟨_, _, _, _, _, _, _, _, _, o411.cell rfl, o411.cell rfl, o411.cell rfl, o411.cell rfl, o411.cell rfl, o411.cell rfl, o411.cell rfl, o411.cell rfl, o411.cell rfl, t.last, o411.cell rfl, t.ins, o411.cell rfl, ?_⟩
          rw [hil]
          refine (rout_any t (ht.no k411) t.last (Nat.le_refl _)).mono ?_
          rintro e w442 ⟨b, rfl, hb, c442⟩
          rw [n6] at hb
          refine ⟨b, rfl, brB_of (fun hbt => ?_) (fun hbf => no (trN k411 c442) fun h => ?_)⟩
          · have hlast := hb.1 hbt
            obtain ⟨o, ho⟩ : ∃ o, os[v.last.toNat]? = some o := ⟨_, List.getElem?_eq_getElem (by have := hlast.1; have := hlast.2.1; omega)⟩
            obtain ⟨u1, u2, _⟩ := hov.2 _ _ _ ho (outAt_ix hlast.1 hlast.2.1)
            have o442 := o411.no c442
            refine ⟨t.outs, o442.cell rfl, v.last, by have := o442.cell (k := 7) (v := .int .i64 t.last) rfl; rw [n6] at this; exact this, (hos.no (trN k411 c442)).ix hlast.1 ho fun a _ hcell' => ⟨o.steps, hcell' 1 _ rfl, _, rfl, ⟨fun h => ?_, fun h => ?_⟩, trN k411 c442⟩⟩
            · have h := of_decide_eq_true h
              exact ⟨⟨q1, q2, q3, q4, q5, q6, q7⟩, fun k i hi => hall k i (List.getElem?_eq_some_iff.1 hi).1 hi, fun k o ho => hexit k o (List.getElem?_eq_some_iff.1 ho).1 ho, fun k c hc => hcell k c (List.getElem?_eq_some_iff.1 hc).1 hc, hlast, by rw [← u2]; exact h⟩
            · apply decide_eq_true
              rw [u2]; exact h.lastS
          · rw [hb.2 h.last] at hbf; cases hbf
  · have bad : ¬ HeadV v → (true = false ↔ HeadV v) ∧ Chg No w11 w11 := fun h => ⟨⟨(fun h => by cases h), fun h' => absurd h' h⟩, Chg.refl _ _⟩
    refine ⟨t.ins, o11.cell rfl, brB_of (fun hw => bad fun h => ?_) (fun hw => ?_)⟩
    · have := of_decide_eq_true hw
      have := h.1; omega
    have g1 := of_decide_eq_false hw
    refine ⟨t.outs, o11.cell rfl, brB_of (fun hw => bad fun h => ?_) (fun hw => ?_)⟩
    · have := of_decide_eq_true hw
      have := h.2.1; omega
    have g2 := of_decide_eq_false hw
    refine ⟨t.start, o11.cell rfl, (within_any _ _ _).mono ?_⟩
    rintro e w16 ⟨rfl, rfl⟩
    refine ⟨_, rfl, brB_of (fun hw => bad fun h => wi_no hw (by rw [n1]; exact h.2.2.1)) (fun hw => ?_)⟩
    have g3 := wi_yes hw
    refine ⟨t.slots, o11.cell rfl, (within_any _ _ _).mono ?_⟩
    rintro e w16 ⟨rfl, rfl⟩
    refine ⟨_, rfl, brB_of (fun hw => bad fun h => wi_no hw (by rw [n2]; exact h.2.2.2.1)) (fun hw => ?_)⟩
    have g4 := wi_yes hw
    refine ⟨t.grow, o11.cell rfl, (within_any _ _ _).mono ?_⟩
    rintro e w16 ⟨rfl, rfl⟩
    refine ⟨_, rfl, brB_of (fun hw => bad fun h => wi_no hw (by rw [n4]; exact h.2.2.2.2.1)) (fun hw => ?_)⟩
    have g5 := wi_yes hw
    refine ⟨t.backs, o11.cell rfl, (within_any _ _ _).mono ?_⟩
    rintro e w16 ⟨rfl, rfl⟩
    refine ⟨_, rfl, brB_of (fun hw => bad fun h => wi_no hw (by rw [n3]; exact h.2.2.2.2.2.1)) (fun hw => ?_)⟩
    have g6 := wi_yes hw
    refine ⟨t.growBack, o11.cell rfl, (within_any _ _ _).mono ?_⟩
    rintro e w16 ⟨rfl, rfl⟩
    refine ⟨_, rfl, ⟨fun hw => ?_, fun h => ?_⟩, Chg.refl _ _⟩
    · have g7 := wi_yes hw
      exact ⟨by omega, by omega, by omega, by omega, by omega, by omega, by omega⟩
    · have := h.2.2.2.2.2.2
      rw [n5]; simp; exact this
end Go.Proofs.YtblmoilneiffgaaGreat

/- The document's own answer to traces (hollowayref15): an exit is taken. -/
set_option maxRecDepth 100000
namespace Go.Proofs.YtblmoilneiffgaaGreat
open Go.RowKit

theorem app0_ints {w : World} {s : Sl} {y : Value} {xs : List Int} (hy : y = s.val) (h : Rd intE w s xs) (hl : xs.length ≤ 10000000) {G : Sl → World → Prop} (k : ∀ (s' : Sl) (w' : World), Ow intE w' s' xs → Chg No w w' → (∀ k, s'.blk = some k → w.heap.size ≤ k) → G s' w') :
    ∃ s' : Sl, ∃ w' : World, (Builtin.append_ #[T_sl_int, T_sl_int] T_sl_int #[.slice none 0 0, y]).run Tryz.prog w = .ok s'.val w' ∧ G s' w' := by
  subst hy
  refine app_ok intOk (s := nilS) rfl rfl (Ow.nil intE w) h (by simp only [List.length_nil, Nat.zero_add]; show xs.length * 8 ≤ _; omega) (by simp only [List.length_nil, Nat.zero_add]; unfold maxLen; omega) ?_
  intro s' w' h' c hbk
  refine k s' w' (by simpa using h') (c.mono (fun k _ hk => by cases hk)) (fun j hj => ?_)
  rcases hbk with hh | hh
  · rw [hh] at hj; cases hj
  · have := Option.some.inj (hh.symm.trans hj); omega
theorem app1_ints {w0 w w2 : World} {l : Sl} {b : Nat} {xs : List Int} {x : Int} (hb : b = w.heap.size) (hw : w2 = World.alloc w (.cells #[.int .i64 x] T_int)) (h : Ow intE w l xs) (c0 : Chg No w0 w) (hn : ∀ k, l.blk = some k → w0.heap.size ≤ k) (hl : xs.length ≤ 10000000) {G : Sl → World → Prop}
    (k : ∀ (s' : Sl) (w' : World), Ow intE w' s' (xs ++ [x]) → Chg No w0 w' → (∀ k, s'.blk = some k → w0.heap.size ≤ k) → G s' w') :
    ∃ s' : Sl, ∃ w' : World, (Builtin.append_ #[T_sl_int, T_sl_int] T_sl_int #[l.val, .slice (some ⟨b, 0, none⟩) 1 1]).run Tryz.prog w2 = .ok s'.val w' ∧ G s' w' := by
  obtain ⟨h1, h2⟩ := lit1 x hb hw
  have z0 := c0.size
  have z2 := h2.size
  refine app_ok intOk (s := l) (t := ⟨some ⟨b, 0, none⟩, 1, 1⟩) rfl rfl (h.no h2) h1.rd (by show (xs.length + 1) * 8 ≤ _; omega) (by show xs.length + 1 ≤ _; unfold maxLen; omega) ?_
  intro s' w' h' c hbk
  refine k s' w' h' ((trN c0 h2).trans c (fun _ _ h => h) (fun j hj he => by have := hn j he; omega)) (fun j hj => ?_)
  rcases hbk with hh | hh
  · exact hn j (hh ▸ hj)
  · have := Option.some.inj (hh.symm.trans hj); omega
def layV (regs : List Int) (xs : List Int) : List Int := xs.map (getI regs)
theorem lay_vals {n : Nat} {xs : List Int} {e : En} (h : PlOk n xs) : valsV (idA n) xs e = layV e.regs xs := by
  unfold valsV layV
  apply List.map_congr_left
  intro p hp
  obtain ⟨a, b⟩ := h p hp
  exact val_id a b
theorem layV_len (regs xs : List Int) : (layV regs xs).length = xs.length := by unfold layV; simp
theorem layV_snoc (regs : List Int) (xs : List Int) (x : Int) : layV regs (xs ++ [x]) = layV regs xs ++ [getI regs x] := by unfold layV; simp
theorem rleave_any {D D' : Nat → Prop} {w : World} (t : TrP) (S : StC) {v : TrG} {s : StV} (ht : TrIs D w t v) (h : StIs D' w S s) {vS : Sl} {regs : List Int} (hv : Rd intE w vS regs) (x : Int) (hx : ExOk v regs.length x) (hsl : 0 ≤ v.slots ∧ v.slots ≤ s.stack.length) (hbl : 0 ≤ v.backs ∧ v.backs ≤ s.back.length) (n1 : s.stack.length ≤ 100000) (n2 : s.back.length ≤ 100000) :
    Calls Tryz.prog fn_hollowayref15_leave #[.agg (trP t).toArray, .agg (stC S).toArray, vS.val, .int .i64 x] w fun e w' => ∃ l b : Sl, e = .returned (.agg (stC { S with ip := (outAt v x).ip, stack := l, back := b }).toArray) ∧
      Ow intE w' l (s.stack.take (s.stack.length - v.slots.toNat) ++ layV regs (outAt v x).stack) ∧ Ow intE w' b (s.back.take (s.back.length - v.backs.toNat) ++ layV regs (outAt v x).back) ∧ (∀ k, l.blk = some k → w.heap.size ≤ k) ∧ (∀ k, b.blk = some k → w.heap.size ≤ k ∧ l.blk ≠ some k) ∧ Chg No w w' := by
  refine (hollowayref15_leave_lift (K := fun r w' => ∃ l b : Sl, r = .agg (stC { S with ip := (outAt v x).ip, stack := l, back := b }).toArray ∧
      Ow intE w' l (s.stack.take (s.stack.length - v.slots.toNat) ++ layV regs (outAt v x).stack) ∧ Ow intE w' b (s.back.take (s.back.length - v.backs.toNat) ++ layV regs (outAt v x).back) ∧ (∀ k, l.blk = some k → w.heap.size ≤ k) ∧ (∀ k, b.blk = some k → w.heap.size ≤ k ∧ l.blk ≠ some k) ∧ Chg No w w') ?_).mono (by rintro e w' ⟨r, rfl, l, b, rfl, h⟩; exact ⟨l, b, rfl, h⟩)
  unfold hollowayref15_leave_sh
  obtain ⟨⟨hx0, hx1⟩, hp1, hp2, hn1, hn2⟩ := hx
  intro b22 w23 hb22 hw23 b24 w25 hb24 hw25 b26 w27 hb26 hw27
  have c23 := al hw23
  have c25 := al hw25
  have c27 := al hw27
  have z23 : w23.heap.size = w.heap.size + 1 := by rw [hw23]; simp
  have z25 : w25.heap.size = w23.heap.size + 1 := by rw [hw25]; simp
  have z27 : w27.heap.size = w25.heap.size + 1 := by rw [hw27]; simp
  have o22 : Ob w27 b22 (trP t) T_api_Trace := by
    have : Ob w23 b22 (trP t) T_api_Trace := by rw [hw23, hb22]; exact Ob.new w (trP t) T_api_Trace
    exact (this.no c25).no c27
  have o24 : Ob w27 b24 (stC S) T_api_State := by
    have : Ob w25 b24 (stC S) T_api_State := by rw [hw25, hb24]; exact Ob.new w23 (stC S) T_api_State
    exact this.no c27
  have o26 : Ob w27 b26 (stC st0) T_api_State := by rw [hw27, hb26]; exact Ob.new w25 (stC st0) T_api_State
  have k27 := trN (trN c23 c25) c27
  obtain ⟨os, hos, hov⟩ := ht.outs
  have hvo := outAt_ix hx0 hx1
  obtain ⟨o, ho⟩ : ∃ o, os[x.toNat]? = some o := ⟨_, List.getElem?_eq_getElem (by rw [hov.1]; omega)⟩
  obtain ⟨u1, u2, u3, u4, _, _⟩ := hov.2 _ _ _ ho hvo
  obtain ⟨t1, t2, t3, t4, t5, t6⟩ := ht.nums
  refine ⟨t.outs, o22.cell rfl, (hos.no k27).ix hx0 ho fun a _ hcell => ?_⟩
  have q0 := hcell 0 _ rfl
  rw [add0] at q0
  refine ⟨o.ip, o.steps, o.stack, o.back, q0, hcell 1 _ rfl, hcell 2 _ rfl, hcell 3 _ rfl, ?_⟩
  intro b34 w35 hb34 hw35
  have hn := fun (w2 : World) => newOb (w2 := w2) (T := T_api_Out) (ouC ⟨0, 0, nilS, nilS⟩) (ouC o) rfl hb34 hw35
  refine ⟨(hn w35).1, fun w36 hw36 => ?_⟩
  obtain ⟨o34, c36⟩ := (hn w36).2 hw36
  have hb34lt := o34.lt
  have z35 : w35.heap.size = w27.heap.size + 1 := by rw [hw35]; simp
  have z36 := c36.size
  have p24 := o24.no c36
  refine ⟨o.ip, o34.cell rfl, p24.wr (by simp [stC]), fun w38 hw38 => ?_⟩
  obtain ⟨q24, c38⟩ := p24.up (k := 0) (vs := [.int .i64 o.ip]) (cs' := stC { S with ip := o.ip }) (by simp [stC]) rfl hw38
  have q22 := (o22.no c36).chg c38 (fun he => by omega)
  have q26 := (o26.no c36).chg c38 (fun he => by omega)
  have q34 := o34.chg c38 (fun he => by omega)
  have z38 := c38.size
  have k38 : Chg No w w38 := (trN k27 c36).trans c38 (fun _ _ h => h) (fun k hk he => by omega)
  have h38 := h.no k38
  have hsl38 := h38.st.len
  have hsc38 := h38.st.capL
  have hbl38 := h38.bk.len
  have hbc38 := h38.bk.capL
  have e1 : wr ((S.stack.len : Int) - t.slots) = ((s.stack.length - v.slots.toNat : Nat) : Int) := by
    rw [t2, hsl38, wr_in (by omega)]; omega
  have e2 : wr ((S.back.len : Int) - t.backs) = ((s.back.length - v.backs.toNat : Nat) : Int) := by
    rw [t3, hbl38, wr_in (by omega)]; omega
  refine ⟨S.stack, q24.cell rfl, S.stack, q24.cell rfl, t.slots, q22.cell rfl, ?_⟩
  rw [e1]
  refine ⟨by omega, by omega, ?_⟩
  rintro s42 rfl
  rw [sub0, Int.toNat_natCast]
  have hr42 : Rd intE w38 ⟨S.stack.ptr, s.stack.length - v.slots.toNat, S.stack.cap⟩ (s.stack.take (s.stack.length - v.slots.toNat)) := h38.st.take (Nat.sub_le _ _)
  refine app0_ints rfl hr42 (by rw [List.length_take]; omega) ?_
  intro s43 w44 g44 c44 b44
  have l3 := u3.len
  have l4 := u4.len
  refine ⟨fun l n w' => ∃ k : Nat, n = k ∧ k ≤ (outAt v x).stack.length ∧ Ow intE w' l (s.stack.take (s.stack.length - v.slots.toNat) ++ layV regs ((outAt v x).stack.take k)) ∧ Chg No w38 w' ∧ (∀ k, l.blk = some k → w38.heap.size ≤ k), fun _ n _ => (outAt v x).stack.length - n.toNat, ⟨0, rfl, Nat.zero_le _, by simpa [layV] using g44, c44, b44⟩, ?_⟩
  rintro l n w45 ⟨k, rfl, hk, g45, c45, b45⟩
  have k45 := trN k38 c45
  refine ⟨o.stack, (q34.no c45).cell rfl, brB_of (fun hlt => ?_) (fun hlt => ?_)⟩
  · have hlt : k < (outAt v x).stack.length := by simp at hlt; omega
    obtain ⟨y, hy⟩ : ∃ y, (outAt v x).stack[k]? = some y := ⟨_, List.getElem?_eq_getElem hlt⟩
    obtain ⟨y0, y1⟩ := hp1 y (List.mem_of_getElem? hy)
    refine ⟨o.stack, (q34.no c45).cell rfl, (u3.no k45).ix (i := (k : Int)) (by omega) (by rw [Int.toNat_natCast]; exact hy) fun a _ hcell => ?_⟩
    have g1 := hcell 0 _ rfl
    rw [add0] at g1
    refine ⟨y, g1, (hv.no k45).ix y0 (getI_ix y0 y1) fun a' _ hcell' => ?_⟩
    have g2 := hcell' 0 _ rfl
    rw [add0] at g2
    refine ⟨_, g2, ?_⟩
    intro b54 w55 hb54 hw55
    refine app1_ints hb54 hw55 g45 c45 b45 (by rw [List.length_append, layV_len, List.length_take, List.length_take]; omega) ?_
    intro s56 w57 g57 c57 b57
    rw [wr_in (by omega)]
    refine ⟨⟨k + 1, by omega, by omega, ?_, c57, b57⟩, by show (outAt v x).stack.length - Int.toNat ((k : Int) + 1) < (outAt v x).stack.length - Int.toNat (k : Int); omega⟩
    rw [List.take_add_one, hy]
    rw [show (some y).toList = [y] from rfl, layV_snoc, ← List.append_assoc]
    exact g57
  · have hlt : k = (outAt v x).stack.length := by simp at hlt; omega
    subst hlt
    rw [List.take_length] at g45
    have z45 := c45.size
    refine ⟨S.back, (q24.no c45).cell rfl, S.back, (q24.no c45).cell rfl, t.backs, (q22.no c45).cell rfl, ?_⟩
    rw [e2]
    refine ⟨by omega, by omega, ?_⟩
    rintro s61 rfl
    rw [sub0, Int.toNat_natCast]
    have hr61 : Rd intE w45 ⟨S.back.ptr, s.back.length - v.backs.toNat, S.back.cap⟩ (s.back.take (s.back.length - v.backs.toNat)) := (h38.bk.no c45).take (Nat.sub_le _ _)
    refine app0_ints rfl hr61 (by rw [List.length_take]; omega) ?_
    intro s62 w63 g63 c63 b63
    refine ⟨fun l' n w' => ∃ k : Nat, n = k ∧ k ≤ (outAt v x).back.length ∧ Ow intE w' l' (s.back.take (s.back.length - v.backs.toNat) ++ layV regs ((outAt v x).back.take k)) ∧ Chg No w45 w' ∧ (∀ k, l'.blk = some k → w45.heap.size ≤ k), fun _ n _ => (outAt v x).back.length - n.toNat, ⟨0, rfl, Nat.zero_le _, by simpa [layV] using g63, c63, b63⟩, ?_⟩
    rintro l' n w64 ⟨k, rfl, hk', g64, c64, b64⟩
    have k64 := trN k45 c64
    have q34' := (q34.no c45).no c64
    refine ⟨o.back, q34'.cell rfl, brB_of (fun hlt => ?_) (fun hlt => ?_)⟩
    · have hlt : k < (outAt v x).back.length := by simp at hlt; omega
      obtain ⟨y, hy⟩ : ∃ y, (outAt v x).back[k]? = some y := ⟨_, List.getElem?_eq_getElem hlt⟩
      obtain ⟨y0, y1⟩ := hp2 y (List.mem_of_getElem? hy)
      refine ⟨o.back, q34'.cell rfl, (u4.no k64).ix (i := (k : Int)) (by omega) (by rw [Int.toNat_natCast]; exact hy) fun a _ hcell => ?_⟩
      have g1 := hcell 0 _ rfl
      rw [add0] at g1
      refine ⟨y, g1, (hv.no k64).ix y0 (getI_ix y0 y1) fun a' _ hcell' => ?_⟩
      have g2 := hcell' 0 _ rfl
      rw [add0] at g2
      refine ⟨_, g2, ?_⟩
      intro b73 w74 hb73 hw74
      refine app1_ints hb73 hw74 g64 c64 b64 (by rw [List.length_append, layV_len, List.length_take, List.length_take]; omega) ?_
      intro s75 w76 g76 c76 b76
      rw [wr_in (by omega)]
      refine ⟨⟨k + 1, by omega, by omega, ?_, c76, b76⟩, by show (outAt v x).back.length - Int.toNat ((k : Int) + 1) < (outAt v x).back.length - Int.toNat (k : Int); omega⟩
      rw [List.take_add_one, hy]
      rw [show (some y).toList = [y] from rfl, layV_snoc, ← List.append_assoc]
      exact g76
    · have hlt : k = (outAt v x).back.length := by simp at hlt; omega
      subst hlt
      rw [List.take_length] at g64
      have z64 := c64.size
      have r24 := (q24.no c45).no c64
      have r26 := (q26.no c45).no c64
      refine ⟨r24.wr (by simp [stC]), fun w77 hw77 => ?_⟩
      obtain ⟨s24, c77⟩ := r24.up (k := 2) (vs := [l.val]) (cs' := stC { S with ip := o.ip, stack := l }) (by simp [stC]) rfl hw77
      refine ⟨s24.wr (by simp [stC]), fun w78 hw78 => ?_⟩
      obtain ⟨t24, c78⟩ := s24.up (k := 3) (vs := [l'.val]) (cs' := stC { S with ip := o.ip, stack := l, back := l' }) (by simp [stC]) rfl hw78
      refine ⟨_, _, _, _, _, _, _, _, _, _, t24.cell rfl, t24.cell rfl, t24.cell rfl, t24.cell rfl, t24.cell rfl, t24.cell rfl, t24.cell rfl, t24.cell rfl, t24.cell rfl, t24.cell rfl, ?_⟩
      have r26' := (r26.chg c77 (fun he => by omega)).chg c78 (fun he => by omega)
      refine ⟨r26'.wr (by simp [stC]), fun w89 hw89 => ?_⟩
      obtain ⟨s26, c89⟩ := r26'.up (k := 0) (vs := stC { S with ip := o.ip, stack := l, back := l' }) (cs' := stC { S with ip := o.ip, stack := l, back := l' }) (by simp [stC]) rfl hw89
      have ce : Chg (fun j => j = b24 ∨ j = b26) w64 w89 := (c77.trans c78 (U := fun j => j = b24 ∨ j = b26) (fun _ _ h => Or.inl h) (fun _ _ h => Or.inl h)).trans c89 (fun _ _ h => h) (fun _ _ h => Or.inr h)
      refine ⟨_, _, _, _, _, _, _, _, _, _, s26.cell rfl, s26.cell rfl, s26.cell rfl, s26.cell rfl, s26.cell rfl, s26.cell rfl, s26.cell rfl, s26.cell rfl, s26.cell rfl, s26.cell rfl, l, l', ?_, ?_, ?_, fun k hk => ?_, fun k hk => ⟨?_, fun he => ?_⟩, ?_⟩
      · rw [u1]; rfl
      · exact (g45.no c64).chg ce (fun k hk he => by have := b45 k hk; omega)
      · exact g64.chg ce (fun k hk he => by have := b64 k hk; omega)
      · have := b45 k hk; omega
      · have := b64 k hk; omega
      · have := b64 k hk; have := g45.lt he; omega
      · exact k64.trans ce (fun _ _ h => h) (fun k hk he => by omega)
end Go.Proofs.YtblmoilneiffgaaGreat

/- The document's own answer to traces (hollowayref15): a run. -/
set_option maxRecDepth 100000
namespace Go.Proofs.YtblmoilneiffgaaGreat
open Go.RowKit

structure RnAt (wb w : World) (p : Nat) (S : StC) (mS rS : Sl) (n : Nat) (S2 : StC) (e : En) : Prop where
  ob : Ob w p (stC S2) T_api_State
  nums : StNums S2 e.s
  same : S2.stack = S.stack ∧ S2.back = S.back ∧ S2.mem = mS
  me : Ow intE w mS e.s.mem
  rg : Ow intE w rS e.regs
  len : e.regs.length = n
  mp : ∀ k, mS.blk = some k → k ≠ p
  rp : ∀ k, rS.blk = some k → k ≠ p ∧ mS.blk ≠ some k
  chg : Chg (fun k => k = p ∨ mS.blk = some k ∨ rS.blk = some k) wb w
section
variable {wa wb w : World} {p : Nat} {S : StC} {mS rS : Sl} {n : Nat} {S2 : StC} {e : En}
theorem RnAt.re (h : RnAt wb w p S mS rS n S2 e) (c : Chg (fun k => k = p ∨ mS.blk = some k ∨ rS.blk = some k) wa wb) : RnAt wa w p S mS rS n S2 e :=
  ⟨h.ob, h.nums, h.same, h.me, h.rg, h.len, h.mp, h.rp, c.trans h.chg (fun _ _ h => h) (fun _ _ h => h)⟩
theorem RnAt.no {w' : World} (h : RnAt wb w p S mS rS n S2 e) (c : Chg No w w') : RnAt wb w' p S mS rS n S2 e :=
  ⟨h.ob.no c, h.nums, h.same, h.me.no c, h.rg.no c, h.len, h.mp, h.rp, h.chg.trans c (fun _ _ h => h) (fun _ _ h => h.elim)⟩
theorem RnAt.self (h : RnAt wb w p S mS rS n S2 e) : RnAt w w p S mS rS n S2 e := ⟨h.ob, h.nums, h.same, h.me, h.rg, h.len, h.mp, h.rp, Chg.refl _ _⟩
theorem RnAt.setR (h : RnAt wb w p S mS rS n S2 e) {k : Nat} (hk : k < n) (v : Int) {G : World → Prop} (kk : ∀ w', RnAt wb w' p S mS rS n S2 (setV (idA n) k v e) → G w') :
    ∃ a : Addr, rS.ptr = some a ∧ 0 ≤ (k : Int) ∧ (k : Int) < (rS.len : Int) ∧ wrOk w (Addr.add a (Int.toNat (k : Int) * 1)) 1 ∧ ∀ w' : World, w' = stW w (Addr.add a (Int.toNat (k : Int) * 1)) 0 [.int .i64 v] → G w' := by
  obtain ⟨x, hx⟩ : ∃ x, e.regs[k]? = some x := ⟨_, List.getElem?_eq_getElem (by rw [h.len]; exact hk)⟩
  obtain ⟨a, ha, _⟩ := h.rg.rd.at hx
  have hl := h.rg.rd.len
  have hn := h.len
  obtain ⟨f1, f2⟩ := h.rg.set1 ha (k := k) (j := 0) (x' := v) (u := .int .i64 v) hx (by decide) rfl
  rw [add0] at f1 f2
  refine ⟨a, ha, by omega, by omega, f1, fun w' hw' => kk w' ?_⟩
  have hb := blk_ptr ha
  have c : Chg (fun j => j = a.block) w w' := by rw [hw']; exact Chg.st (S := fun j => j = a.block) (by rw [add_block])
  refine ⟨h.ob.chg c (fun he => (h.rp _ hb).1 he.symm), h.nums, h.same, h.me.chg c (fun j hj he => (h.rp _ hb).2 (he ▸ hj)), ?_, by rw [set_len]; exact hn, h.mp, h.rp, h.chg.trans c (fun _ _ h => h) (fun j _ hj => Or.inr (Or.inr (by rw [hj]; exact hb)))⟩
  rw [hw']
  show Ow intE _ rS (e.regs.set (getI (idA n) k).toNat v)
  rw [idA_at (by omega) (by omega), Int.toNat_natCast]
  exact f2
theorem RnAt.setM (h : RnAt wb w p S mS rS n S2 e) {b : Int} (hb0 : 0 ≤ b) (hb1 : b < e.s.mem.length) (v : Int) {G : World → Prop} (kk : ∀ w', RnAt wb w' p S mS rS n S2 { e with s := { e.s with mem := e.s.mem.set b.toNat v } } → G w') :
    ∃ a : Addr, mS.ptr = some a ∧ 0 ≤ b ∧ b < (mS.len : Int) ∧ wrOk w (Addr.add a (Int.toNat b * 1)) 1 ∧ ∀ w' : World, w' = stW w (Addr.add a (Int.toNat b * 1)) 0 [.int .i64 v] → G w' := by
  obtain ⟨a, ha, _⟩ := h.me.rd.at (getI_ix hb0 hb1)
  have hl := h.me.rd.len
  obtain ⟨f1, f2⟩ := h.me.set1 ha (k := b.toNat) (j := 0) (x' := v) (u := .int .i64 v) (getI_ix hb0 hb1) (by decide) rfl
  rw [add0] at f1 f2
  refine ⟨a, ha, hb0, by omega, f1, fun w' hw' => kk w' ?_⟩
  have hb := blk_ptr ha
  have c : Chg (fun j => j = a.block) w w' := by rw [hw']; exact Chg.st (S := fun j => j = a.block) (by rw [add_block])
  refine ⟨h.ob.chg c (fun he => h.mp _ hb he.symm), h.nums, h.same, by rw [hw']; exact f2, h.rg.chg c (fun j hj he => (h.rp j hj).2 (he ▸ hb)), h.len, h.mp, h.rp, h.chg.trans c (fun _ _ h => h) (fun j _ hj => Or.inr (Or.inl (by rw [hj]; exact hb)))⟩
theorem RnAt.setP (h : RnAt wb w p S mS rS n S2 e) {k : Nat} {u : Value} (hk : k < 10) (S3 : StC) {s3 : StV} (hc : wrL (stC S2) k [u] = stC S3) (hn : StNums S3 s3) (hs : S3.stack = S2.stack ∧ S3.back = S2.back ∧ S3.mem = S2.mem) (hm : s3.mem = e.s.mem) {G : World → Prop} (kk : ∀ w', RnAt wb w' p S mS rS n S3 { e with s := s3 } → G w') :
    wrOk w ⟨p, k, none⟩ 1 ∧ ∀ w' : World, w' = stW w ⟨p, k, none⟩ 0 [u] → G w' := by
  refine ⟨h.ob.wr (by simp [stC]; omega), fun w' hw' => kk w' ?_⟩
  obtain ⟨o', c'⟩ := h.ob.up (k := k) (vs := [u]) (cs' := stC S3) (by simp [stC]; omega) hc hw'
  obtain ⟨s1, s2, s3'⟩ := h.same
  refine ⟨o', hn, ⟨hs.1.trans s1, hs.2.1.trans s2, hs.2.2.trans s3'⟩, ?_, h.rg.chg c' (fun j hj he => (h.rp j hj).1 he), h.len, h.mp, h.rp, h.chg.trans c' (fun _ _ h => h) (fun j _ hj => Or.inl hj)⟩
  show Ow intE w' mS s3.mem
  rw [hm]
  exact h.me.chg c' (fun j hj he => h.mp j hj he)
end
theorem byteC_and (b : Int) : IntKind.wrap .u8 (iand .i64 b 255) = IntKind.wrap .u8 b := by
  unfold iand
  rw [show IntKind.bits .i64 = 64 from rfl, BitVec.toNat_and, BitVec.toNat_ofInt, BitVec.toNat_ofInt]
  rw [show ((255 : Int) % ((2 : Nat) ^ 64 : Nat)).toNat = 2 ^ 8 - 1 by decide, Nat.and_two_pow_sub_one_eq_mod]
  rw [IntKind.wrap_i64, IntKind.wrap_u8, IntKind.wrap_u8]
  omega
theorem idA_get {n : Nat} {p : Int} {e : En} (h0 : 0 ≤ p) (h1 : p < n) : valV (idA n) p e = getI e.regs p := val_id h0 h1
theorem set_zero {l : List Int} {k : Nat} (h : l[k]? = some 0) : l.set k 0 = l := by
  apply List.ext_getElem?
  intro j
  by_cases hj : j = k
  · subst hj
    rw [List.getElem?_set_self (List.getElem?_eq_some_iff.1 h).1, h]
  · rw [List.getElem?_set_ne (by omega)]
theorem rrun_any {D D' : Nat → Prop} {w : World} (t : TrP) (S : StC) {v : TrG} {s : StV} (ht : TrIs D w t v) (hr : RightV v) (h : StIs D' w S s) {waS : Sl} {wl : List Int} (hwa : Rd intE w waS wl)
    (hm : mayV v s = true) (n3 : s.mem.length ≤ 1000000) (hx : TxOk s) (hir : ∀ i ∈ v.ins, i.a = 1 → Cn.In i.b) (hi1 : InL s.mem) (hi2 : InL s.stack) (hi3 : InL s.back) :
    Calls Tryz.prog fn_hollowayref15_Run #[.agg (trP t).toArray, .agg (stC S).toArray, waS.val] w fun e w' => ∃ S' : StC, e = .returned (.tuple #[.agg (stC S').toArray, .int .i64 (runG v s wl).1, .bool (decide ((runG v s wl).2.hit ≥ 0))]) ∧ StOw (fun k => w.heap.size ≤ k) w' S' (endV v (runG v s wl)) ∧ Chg No w w' := by
  refine (hollowayref15_Run_lift (K := fun r w' => ∃ S' : StC, r = .tuple #[.agg (stC S').toArray, .int .i64 (runG v s wl).1, .bool (decide ((runG v s wl).2.hit ≥ 0))] ∧ StOw (fun k => w.heap.size ≤ k) w' S' (endV v (runG v s wl)) ∧ Chg No w w') ?_).mono (by rintro e w' ⟨r, rfl, S', rfl, h⟩; exact ⟨S', rfl, h⟩)
  unfold hollowayref15_Run_sh
  obtain ⟨y1, y2, y3, y4, y5, y6⟩ := mayV_iff hm
  obtain ⟨q1, q2, q3, q4, q5, q6, q7⟩ := hr.head
  intro b21 w22 hb21 hw22 b23 w24 hb23 hw24 b25 w26 hb25 hw26
  have c22 := al hw22
  have c24 := al hw24
  have c26 := al hw26
  have z22 : w22.heap.size = w.heap.size + 1 := by rw [hw22]; simp
  have z24 : w24.heap.size = w22.heap.size + 1 := by rw [hw24]; simp
  have z26 : w26.heap.size = w24.heap.size + 1 := by rw [hw26]; simp
  have o21 : Ob w26 b21 (trP t) T_api_Trace := by
    have : Ob w22 b21 (trP t) T_api_Trace := by rw [hw22, hb21]; exact Ob.new w (trP t) T_api_Trace
    exact (this.no c24).no c26
  have o23 : Ob w26 b23 (stC S) T_api_State := by
    have : Ob w24 b23 (stC S) T_api_State := by rw [hw24, hb23]; exact Ob.new w22 (stC S) T_api_State
    exact this.no c26
  have o25 : Ob w26 b25 (stC st0) T_api_State := by rw [hw26, hb25]; exact Ob.new w24 (stC st0) T_api_State
  have k26 := trN (trN c22 c24) c26
  refine ⟨S.mem, o23.cell rfl, app0_ints rfl (h.me.no k26) (by omega) ?_⟩
  intro s28 w29 g28 c29 b28
  have z29 := c29.size
  have p23 := o23.no c29
  refine ⟨p23.wr (by simp [stC]), fun w30 hw30 => ?_⟩
  obtain ⟨q23, c30⟩ := p23.up (k := 4) (vs := [s28.val]) (cs' := stC { S with mem := s28 }) (by simp [stC]) rfl hw30
  have z30 := c30.size
  have l28 : ∀ k, s28.blk = some k → w26.heap.size ≤ k ∧ k < w29.heap.size := fun k hk => ⟨b28 k hk, g28.lt hk⟩
  have g28' := g28.chg c30 (fun k hk he => by have := (l28 k hk).1; omega)
  have q21 := (o21.no c29).chg c30 (fun he => by omega)
  have q25 := (o25.no c29).chg c30 (fun he => by omega)
  have k30 : Chg No w w30 := (trN k26 c29).trans c30 (fun _ _ h => h) (fun k hk he => by omega)
  have hil := ht.ins.len
  have hic := ht.ins.capL
  refine ⟨t.ins, q21.cell rfl, ?_⟩
  rw [hil]
  obtain ⟨w33, hrun, hreg, c33⟩ := make_ints (w := w30) (n := (v.ins.length : Int)) (N := v.ins.length) rfl (by omega)
  refine ⟨_, w33, hrun, ?_⟩
  have z33 : w30.heap.size < w33.heap.size := hreg.lt rfl
  have hsb : ∀ k, (⟨some ⟨w30.heap.size, 0, none⟩, v.ins.length, v.ins.length⟩ : Sl).blk = some k → k = w30.heap.size := fun k hk => (Option.some.inj hk).symm
  obtain ⟨rS, hrS⟩ : ∃ rS : Sl, rS = ⟨some ⟨w30.heap.size, 0, none⟩, v.ins.length, v.ins.length⟩ := ⟨_, rfl⟩
  rw [← hrS] at hreg hsb ⊢
  have k33 := trN k30 c33
  have r21 := q21.no c33
  have r25 := q25.no c33
  have hen0 : RnAt w33 w33 b23 S s28 rS v.ins.length { S with mem := s28 } (en0 v.ins.length s) :=
    ⟨q23.no c33, h.nums, ⟨rfl, rfl, rfl⟩, g28'.no c33, hreg, List.length_replicate, fun k hk => by have := (l28 k hk).1; omega, fun k hk => ⟨by have := hsb k hk; omega, fun he => by have := hsb k hk; have := (l28 k he).2; omega⟩, Chg.refl _ _⟩
  -- the blocks that are turned
  have bB : ∀ k, (k = b23 ∨ s28.blk = some k ∨ rS.blk = some k) → b23 ≤ k ∧ k ≠ b25 ∧ k < w33.heap.size := fun k hk => by
    rcases hk with hk | hk | hk
    · omega
    · have := l28 k hk; omega
    · have := hsb k hk; omega
  -- an exit is taken
  have fin : ∀ (wA : World) (S2 : StC) (e : En) (x : Int) (k : Nat), RnAt w33 wA b23 S s28 rS v.ins.length S2 e → e.s.stack = s.stack → e.s.back = s.back → k ≤ v.ins.length → OutV v x k →
      Calls Tryz.prog fn_hollowayref15_leave #[.agg (trP t).toArray, .agg (stC S2).toArray, rS.val, .int .i64 x] wA fun r w' => ∃ S' : StC, r = .returned (.agg (stC S').toArray) ∧ Chg No wA w' ∧
        (∀ wB, Chg (fun k => k = b25) w' wB → StOw (fun k => w.heap.size ≤ k) wB S' (leaveV v (idA v.ins.length) x e) ∧ Chg No w wB) := by
    intro wA S2 e x k hA h1 h2 hk hxo
    have kA : Chg No w wA := k33.trans hA.chg (fun _ _ h => h) (fun k hk he => by have := bB k he; omega)
    have zA := hA.chg.size
    obtain ⟨s1, s2, s3⟩ := hA.same
    have hS2 : StIs (fun _ => True) wA S2 e.s := ⟨hA.nums, by rw [s1, h1]; exact h.st.no kA, by rw [s2, h2]; exact h.bk.no kA, by rw [s3]; exact hA.me.rd, fun _ _ => trivial, fun _ _ => trivial, fun _ _ => trivial⟩
    have hxx := hr.exOk (n := e.regs.length) hA.len hk hxo
    refine (rleave_any t S2 (ht.no kA) hS2 hA.rg.rd x hxx (by rw [h1]; omega) (by rw [h2]; omega) (by rw [h1]; omega) (by rw [h2]; omega)).mono ?_
    rintro r w' ⟨l, b, rfl, gl, gb, bl, bb, c'⟩
    refine ⟨_, rfl, c', fun wB cB => ⟨?_, ?_⟩⟩
    · have z' := c'.size
      have e1 : valsV (idA v.ins.length) (outAt v x).stack e = layV e.regs (outAt v x).stack := lay_vals (by rw [← hA.len]; exact hxx.2.1)
      have e2 : valsV (idA v.ins.length) (outAt v x).back e = layV e.regs (outAt v x).back := lay_vals (by rw [← hA.len]; exact hxx.2.2.1)
      obtain ⟨m1, m2, m3, m4, m5, m6, m7⟩ := hA.nums
      refine ⟨⟨rfl, m2, m3, m4, m5, m6, m7⟩, ?_, ?_, ?_, fun k hk => ?_, fun k hk => ⟨?_, (bb k hk).2⟩, fun k hk => ⟨?_, fun he => ?_, fun he => ?_⟩⟩
      · show Ow intE wB l (e.s.stack.take (e.s.stack.length - v.slots.toNat) ++ valsV (idA v.ins.length) (outAt v x).stack e)
        rw [e1]; exact gl.chg cB (fun k hk he => by have := bl k hk; omega)
      · show Ow intE wB b (e.s.back.take (e.s.back.length - v.backs.toNat) ++ valsV (idA v.ins.length) (outAt v x).back e)
        rw [e2]; exact gb.chg cB (fun k hk he => by have := (bb k hk).1; omega)
      · show Ow intE wB S2.mem e.s.mem
        rw [s3]; exact (hA.me.no c').chg cB (fun k hk he => by have := bB k (Or.inr (Or.inl hk)); omega)
      · have := bl k hk; omega
      · have := (bb k hk).1; omega
      · have hk : S2.mem.blk = some k := hk
        rw [s3] at hk; have := l28 k hk; omega
      · have hk : S2.mem.blk = some k := hk
        have he : l.blk = some k := he
        rw [s3] at hk; have := l28 k hk; have := bl k he; omega
      · have hk : S2.mem.blk = some k := hk
        have he : b.blk = some k := he
        rw [s3] at hk; have := l28 k hk; have := (bb k he).1; omega
    · exact (trN kA c').trans cB (fun _ _ h => h) (fun k hk he => by omega)
  refine ⟨fun n w' => ∃ (k : Nat) (S2 : StC) (e : En), n = k ∧ k ≤ v.ins.length ∧ RnAt w33 w' b23 S s28 rS v.ins.length S2 e ∧ EnIn e ∧ TxOk e.s ∧ e.hit = -1 ∧ e.s.stack = s.stack ∧ e.s.back = s.back ∧ (∀ q : Nat, k ≤ q → q < v.ins.length → e.regs[q]? = some 0) ∧ runG v s wl = goV (idA v.ins.length) wl v.last (v.ins.drop k) k e, fun n _ => v.ins.length - n.toNat,
    ⟨0, _, en0 v.ins.length s, rfl, Nat.zero_le _, hen0, ⟨fun x hx => by rw [List.eq_of_mem_replicate hx]; exact in0', hi1, hi2, hi3⟩, hx, rfl, rfl, rfl, fun q _ hq => by show (List.replicate v.ins.length (0 : Int))[q]? = some 0; rw [List.getElem?_replicate, if_pos hq], rfl⟩, ?_⟩
  rintro n w34 ⟨k, S2, e, rfl, hk, hA, hin, htx, hhit, hs1, hs2, hz, hrun'⟩
  have k34 : Chg No w w34 := k33.trans hA.chg (fun _ _ h => h) (fun k hk he => by have := bB k he; omega)
  have t21 := r21.chg hA.chg (fun he => by have := bB _ he; omega)
  have t25 := r25.chg hA.chg (fun he => by have := bB _ he; omega)
  have z34 := hA.chg.size
  refine ⟨t.ins, t21.cell rfl, brB_of (fun hlt => ?_) (fun hlt => ?_)⟩
  · have hlt : k < v.ins.length := by simp at hlt; omega
    obtain ⟨i, hi⟩ : ∃ i, v.ins[k]? = some i := ⟨_, List.getElem?_eq_getElem hlt⟩
    have hdr : v.ins.drop k = i :: v.ins.drop (k + 1) := by
      rw [List.drop_eq_getElem_cons hlt]
      rw [List.getElem?_eq_getElem hlt] at hi
      cases hi; rfl
    rw [hdr] at hrun'
    refine ⟨t.ins, t21.cell rfl, (ht.ins.no k34).ix (i := (k : Int)) (by omega) (by rw [Int.toNat_natCast]; exact hi) fun a _ hcell => ?_⟩
    have g0 := hcell 0 _ rfl
    rw [add0] at g0
    refine ⟨_, _, _, _, _, g0, hcell 1 _ rfl, hcell 2 _ rfl, hcell 3 _ rfl, hcell 4 _ rfl, ?_⟩
    intro b44 w45 hb44 hw45
    have hn := fun (w2 : World) => newOb (w2 := w2) (T := T_api_Ins) (insC ⟨0, 0, 0, 0, 0⟩) (insC i) rfl hb44 hw45
    refine ⟨(hn w45).1, fun w46 hw46 => ?_⟩
    obtain ⟨o44, c46⟩ := (hn w46).2 hw46
    have hb44lt := o44.lt
    refine ⟨_, _, _, _, _, o44.cell rfl, o44.cell rfl, o44.cell rfl, o44.cell rfl, o44.cell rfl, (ruses_any i w46).mono ?_⟩
    rintro e' w53 ⟨r, rfl, s54, rfl, gu, c53, _⟩
    have hE := hr.each k i hi
    obtain ⟨e1, e2, e3, e4, e5, e6⟩ := hE
    have A53 := ((hA.no c46).no c53)
    have A := A53.self
    have o53 := o44.no c53
    have b44N : ∀ {w' : World}, Chg (fun k => k = b23 ∨ s28.blk = some k ∨ rS.blk = some k) w53 w' → Ob w' b44 (insC i) T_api_Ins := fun c => o53.chg c (fun he => by have := bB _ he; omega)
    have k53 := trN (trN k34 c46) c53
    obtain ⟨bv, hbv⟩ : ∃ bv : Int, bv = if 0 < (usesV i).length then getI e.regs i.c else 0 := ⟨_, rfl⟩
    obtain ⟨cv, hcv⟩ : ∃ cv : Int, cv = if 1 < (usesV i).length then getI e.regs i.d else 0 := ⟨_, rfl⟩
    have useC : 0 < (usesV i).length → (usesV i)[0]? = some i.c := fun hl => by
      rcases usesV_cases i with ⟨g1, g2⟩ | ⟨g1, g2⟩ | ⟨g1, g2⟩
      · omega
      · rw [g2]; rfl
      · rw [g2]; rfl
    have useD : 1 < (usesV i).length → (usesV i)[1]? = some i.d := fun hl => by
      rcases usesV_cases i with ⟨g1, g2⟩ | ⟨g1, g2⟩ | ⟨g1, g2⟩
      · omega
      · omega
      · rw [g2]; rfl
    have rngC : 0 < (usesV i).length → 0 ≤ i.c ∧ i.c < v.ins.length := fun hl => by
      obtain ⟨a, b, _⟩ := e5 i.c (List.mem_of_getElem? (useC hl)); omega
    have rngD : 1 < (usesV i).length → 0 ≤ i.d ∧ i.d < v.ins.length := fun hl => by
      obtain ⟨a, b, _⟩ := e5 i.d (List.mem_of_getElem? (useD hl)); omega
    have inb : Cn.In bv := by
      rw [hbv]; split
      · exact hin.regs.get _
      · exact in0'
    have inc : Cn.In cv := by
      rw [hcv]; split
      · exact hin.regs.get _
      · exact in0'
    have hoc : ocV i.a i.b (valV (idA v.ins.length) i.c e) (valV (idA v.ins.length) i.d e) e.s wl = ocV i.a i.b bv cv e.s wl := by
      apply ocV_uses e2
      · intro hc
        have hl : 0 < (usesV i).length := List.length_pos_of_mem hc
        rw [hbv, if_pos hl]; exact idA_get (rngC hl).1 (rngC hl).2
      · intro hc
        rw [hcv, if_pos (by omega)]; exact idA_get (rngD (by omega)).1 (rngD (by omega)).2
    have oin := ocV_in (op := i.a) (a := i.b) (b := bv) (c := cv) (s := e.s) wl (hir i (List.mem_of_getElem? hi)) inb inc hin.mem hin.st hin.bk
    have txn := htx.ins (idA v.ins.length) wl k i
    rw [insV_oc, hoc] at txn
    obtain ⟨J, hJ⟩ : ∃ J : Bool → World → Prop, J = fun ex w' => ∃ (S2 : StC) (e' : En), RnAt w53 w' b23 S s28 rS v.ins.length S2 e' ∧ e'.s.stack = s.stack ∧ e'.s.back = s.back ∧ e'.hit = -1 ∧
        ((ex = true ∧ runG v s wl = (i.e, e') ∧ OutV v i.e k) ∨ (ex = false ∧ EnIn e' ∧ TxOk e'.s ∧ (∀ q : Nat, k + 1 ≤ q → q < v.ins.length → e'.regs[q]? = some 0) ∧ runG v s wl = goV (idA v.ins.length) wl v.last (v.ins.drop (k + 1)) ((k : Int) + 1) e')) := ⟨_, rfl⟩
    have Jval : ∀ {w' : World} {S2' : StC} {s' : StV} {x : Int}, ocV i.a i.b bv cv e.s wl = .go s' (some x) → RnAt w53 w' b23 S s28 rS v.ins.length S2' (setV (idA v.ins.length) k x { e with s := s' }) → J false w' := by
      intro w' S2' s' x ho hR
      rw [ho] at oin txn
      rw [hJ]
      refine ⟨S2', _, hR, oin.2.1.trans hs1, oin.2.2.1.trans hs2, hhit, Or.inr ⟨rfl, go_in hin oin, txn, fun q h1 h2 => ?_, ?_⟩⟩
      · show (e.regs.set (getI (idA v.ins.length) k).toNat x)[q]? = some 0
        rw [idA_at (by omega) (by omega), Int.toNat_natCast, List.getElem?_set_ne (by omega)]
        exact hz q (by omega) h2
      · rw [hrun', goV_val (hoc.trans ho)]
    have Jgo : ∀ {w' : World} {S2' : StC} {s' : StV}, ocV i.a i.b bv cv e.s wl = .go s' none → RnAt w53 w' b23 S s28 rS v.ins.length S2' { e with s := s' } → J false w' := by
      intro w' S2' s' ho hR
      rw [ho] at oin txn
      rw [hJ]
      refine ⟨S2', _, hR, oin.2.1.trans hs1, oin.2.2.1.trans hs2, hhit, Or.inr ⟨rfl, go_in (ats := []) (q := 0) hin oin, txn, fun q h1 h2 => hz q (by omega) h2, ?_⟩⟩
      rw [hrun', goV_go (hoc.trans ho)]
    have Jex : ∀ {w' : World}, ocV i.a i.b bv cv e.s wl = .ex → RnAt w53 w' b23 S s28 rS v.ins.length S2 e → J true w' := by
      intro w' ho hR
      have hxo := e6 _ (ocV_ex e2 ho)
      rw [hJ]
      exact ⟨S2, e, hR, hs1, hs2, hhit, Or.inl ⟨rfl, by rw [hrun', goV_ex (hoc.trans ho) hxo.1], hxo⟩⟩
    refine ⟨s54, rfl, fun b w' => b = bv ∧ w' = w53, ?_, ?_⟩
    · rintro b88 w59 ⟨rfl, rfl⟩
      refine ⟨fun c w' => c = cv ∧ w' = w59, ?_, ?_⟩
      · rintro c89 w64 ⟨rfl, rfl⟩
        refine ⟨J, ?_, ?_⟩
        · rintro ex w194 hj
          rw [hJ] at hj
          obtain ⟨S3, e3', hR, f1, f2, f3, f4⟩ := hj
          have c194 : Chg (fun k => k = b23 ∨ s28.blk = some k ∨ rS.blk = some k) w33 w64 := (hA.chg.trans c46 (fun _ _ h => h) (fun _ _ h => h.elim)).trans c53 (fun _ _ h => h) (fun _ _ h => h.elim)
          have hR33 := hR.re c194
          refine brB_of (fun hex => ?_) (fun hex => ?_)
          · rcases f4 with ⟨_, f5, f6⟩ | ⟨f5, _⟩
            rotate_left
            · rw [hex] at f5; cases f5
            intro w196 hw196
            have c196 := dw hw196
            have hR196 := hR33.no c196
            have u21 := (r21.chg hR33.chg (fun he => by have := bB _ he; omega)).no c196
            have u25 := (r25.chg hR33.chg (fun he => by have := bB _ he; omega)).no c196
            have u23 := hR196.ob
            have u44 := (b44N hR.chg).no c196
            have d21 : ∀ {j : Nat} {u : Value}, (trP t)[j]? = some u → held (fun w' => Chg (fun k => k = b25) w196 w') ⟨b21, j, none⟩ u := fun h => Ob.held (fun w' c => u21.chg c (fun he => by omega)) h
            have d23 : ∀ {j : Nat} {u : Value}, (stC S3)[j]? = some u → held (fun w' => Chg (fun k => k = b25) w196 w') ⟨b23, j, none⟩ u := fun h => Ob.held (fun w' c => u23.chg c (fun he => by omega)) h
            have d44 : ∀ {j : Nat} {u : Value}, (insC i)[j]? = some u → held (fun w' => Chg (fun k => k = b25) w196 w') ⟨b44, j, none⟩ u := fun h => Ob.held (fun w' c => u44.chg c (fun he => by omega)) h
            refine ⟨fun w' => Chg (fun k => k = b25) w196 w', Chg.refl _ _, _, _, _, _, _, _, _, _, _, d21 rfl, d21 rfl, d21 rfl, d21 rfl, d21 rfl, d21 rfl, d21 rfl, d21 rfl, d21 rfl, ?_⟩
            refine ⟨_, _, _, _, _, _, _, _, _, _, d23 rfl, d23 rfl, d23 rfl, d23 rfl, d23 rfl, d23 rfl, d23 rfl, d23 rfl, d23 rfl, d23 rfl, _, d44 rfl, _, d44 rfl, (fin w196 S3 e3' i.e k hR196 f1 f2 hk f6).mono ?_⟩
            rintro r w220 ⟨S4, rfl, c220, f7⟩
            have v25 := u25.no c220
            refine ⟨_, _, _, _, _, _, _, _, _, _, rfl, c220.mono (fun _ _ h => h.elim), v25.wr (by simp [stC]), fun w231 hw231 => ?_⟩
            obtain ⟨x25, c231⟩ := v25.up (k := 0) (vs := stC S4) (cs' := stC S4) (by simp [stC]) rfl hw231
            obtain ⟨f8, f9⟩ := f7 w231 c231
            refine ⟨c220.trans c231 (fun _ _ h => h.elim) (fun _ _ h => h), _, _, _, _, _, _, _, _, _, _, x25.cell rfl, x25.cell rfl, x25.cell rfl, x25.cell rfl, x25.cell rfl, x25.cell rfl, x25.cell rfl, x25.cell rfl, x25.cell rfl, x25.cell rfl, S4, ?_, ?_, f9⟩
            · rw [f5, show decide (e3'.hit ≥ 0) = false from decide_eq_false (by omega)]; rfl
            · rw [f5]; exact f8
          · rcases f4 with ⟨f5, _⟩ | ⟨_, f5, f6, f7, f8⟩
            · rw [hex] at f5; cases f5
            rw [wr_in (by omega)]
            exact ⟨⟨k + 1, S3, e3', by omega, by omega, hR33, f5, f6, f3, f1, f2, f7, f8⟩, by show v.ins.length - Int.toNat ((k : Int) + 1) < v.ins.length - Int.toNat (k : Int); omega⟩
        · -- the operations
          have eqb : ∀ {n : Int}, (i.a == n) = true → i.a = n := fun h => by simpa using h
          have neb : ∀ {n : Int}, (i.a == n) = false → i.a ≠ n := fun h => by simpa using h
          have hst64 := h.st.no k53
          have hbk64 := h.bk.no k53
          obtain ⟨s1, s2, s3⟩ := A.same
          obtain ⟨m1, m2, m3, m4, m5, m6, m7⟩ := A.nums
          refine ⟨i.a, o53.cell rfl, brB_of (fun h1 => ?_) (fun h1 => brB_of (fun h2 => ?_) (fun h2 => brB_of (fun h3 => ?_) (fun h3 => brB_of (fun h4 => ?_) (fun h4 => brB_of (fun h5 => ?_) (fun h5 => brB_of (fun h6 => ?_) (fun h6 => brB_of (fun h7 => ?_) (fun h7 => brB_of (fun h8 => ?_) (fun h8 => brB_of (fun h9 => ?_) (fun h9 => ?_)))))))))⟩
          · have h1 := eqb h1
            exact ⟨i.b, o53.cell rfl, A.setR hlt i.b fun w' hR => Jval (s' := e.s) (by unfold ocV; rw [if_pos h1]) hR⟩
          · have h1 := neb h1
            have h2 := eqb h2
            have hsl := e3 h2
            have hl := hst64.len
            have hcp := hst64.capL
            refine ⟨S2.stack, A.ob.cell rfl, S2.stack, A.ob.cell rfl, i.b, o53.cell rfl, ?_⟩
            rw [s1, hl, wr_in (x := (s.stack.length : Int) - 1) (by omega), wr_in (by omega), ← hl]
            refine hst64.ix (x := getI e.s.stack ((e.s.stack.length : Int) - 1 - i.b)) (by omega) (by rw [hl, hs1]; exact getI_ix (by omega) (by omega)) fun a _ hcell => ?_
            have q := hcell 0 _ rfl
            rw [add0] at q
            exact ⟨_, q, A.setR hlt _ fun w' hR => Jval (s' := e.s) (by unfold ocV; rw [if_neg h1, if_pos h2]) hR⟩
          · have h1 := neb h1
            have h2 := neb h2
            have h3 := eqb h3
            have hsl := e4 h3
            have hl := hbk64.len
            have hcp := hbk64.capL
            refine ⟨S2.back, A.ob.cell rfl, S2.back, A.ob.cell rfl, i.b, o53.cell rfl, ?_⟩
            rw [s2, hl, wr_in (x := (s.back.length : Int) - 1) (by omega), wr_in (by omega), ← hl]
            refine hbk64.ix (x := getI e.s.back ((e.s.back.length : Int) - 1 - i.b)) (by omega) (by rw [hl, hs2]; exact getI_ix (by omega) (by omega)) fun a _ hcell => ?_
            have q := hcell 0 _ rfl
            rw [add0] at q
            exact ⟨_, q, A.setR hlt _ fun w' hR => Jval (s' := e.s) (by unfold ocV; rw [if_neg h1, if_neg h2, if_pos h3]) hR⟩
          · have h1 := neb h1
            have h2 := neb h2
            have h3 := neb h3
            have h4 := eqb h4
            refine ⟨fun ok w' => J (!ok) w', fun ok w' hj => hj, i.b, o53.cell rfl, (risTwo_any i.b _).mono ?_⟩
            rintro e' w85 ⟨rfl, rfl⟩
            refine ⟨_, rfl, brB_of (fun ht2 => ?_) (fun ht2 => ?_)⟩
            · refine ⟨i.b, o53.cell rfl, (rtwo_any i.b b88 c89 inc _).mono ?_⟩
              rintro e' w91 ⟨rfl, rfl⟩
              refine ⟨_, _, rfl, ?_⟩
              have hone := risOne_not ht2
              by_cases hok : Cn.isTwo i.b c89 = true
              · rw [hok, Cn.rtwo_two inb]
                exact A.setR hlt _ fun w' hR => Jval (s' := e.s) (by unfold ocV; rw [if_neg h1, if_neg h2, if_neg h3, if_pos h4, if_neg (by rw [hone]; decide), if_pos hok]) hR
              · have hz0 : Cn.rtwo i.b b88 c89 = 0 := by
                  have hok' := hok
                  rw [isTwo_eq ht2] at hok'
                  have hd : (i.b = 14 ∨ i.b = 15) ∧ c89 = 0 := by
                    rcases hd : decide ((i.b = 14 ∨ i.b = 15) ∧ c89 = 0) with _ | _
                    · rw [hd] at hok'; exact absurd rfl hok'
                    · exact of_decide_eq_true hd
                  rcases hd with ⟨hd | hd, hc0⟩ <;> rw [hd, hc0] <;> rfl
                rw [hz0, show Cn.isTwo i.b c89 = false by simpa using hok]
                refine A.setR hlt 0 fun w' hR => Jex (by unfold ocV; rw [if_neg h1, if_neg h2, if_neg h3, if_pos h4, if_neg (by rw [hone]; decide), if_neg hok]) ?_
                have : setV (idA v.ins.length) k 0 e = e := by
                  unfold setV; rw [idA_at (by omega) (by omega), Int.toNat_natCast, set_zero (hz k (Nat.le_refl _) hlt)]
                rw [this] at hR; exact hR
            · refine ⟨i.b, o53.cell rfl, (rone_any i.b b88 _).mono ?_⟩
              rintro e' w98 ⟨rfl, rfl⟩
              have hone : Cn.isOne i.b = true := by
                rw [isOne_eq]
                rcases e2 h4 with h' | h'
                · rw [h'] at ht2; cases ht2
                · exact h'
              refine ⟨_, _, rfl, ?_⟩
              rw [rone_one]
              exact A.setR hlt _ fun w' hR => Jval (s' := e.s) (by unfold ocV; rw [if_neg h1, if_neg h2, if_neg h3, if_pos h4, if_pos hone]) hR
          · have h1 := neb h1
            have h2 := neb h2
            have h3 := neb h3
            have h4 := neb h4
            have h5 := eqb h5
            have hml := A.me.rd.len
            have hmc := A.me.rd.capL
            refine ⟨fun b w' => b = decide (b88 < 0 ∨ (e.s.mem.length : Int) ≤ b88) ∧ w' = w64, ?_, ?_⟩
            · rintro b w106 ⟨rfl, rfl⟩
              refine brB_of (fun hf => ?_) (fun hf => ?_)
              · have hf : ¬ (b88 < 0 ∨ (e.s.mem.length : Int) ≤ b88) := by rw [Bool.not_eq_true'] at hf; exact of_decide_eq_false hf
                rw [show decide (b88 < 0 ∨ (e.s.mem.length : Int) ≤ b88) = false from decide_eq_false hf]
                refine ⟨S2.mem, A.ob.cell rfl, ?_⟩
                rw [s3]
                refine A.me.rd.ix (by omega) (getI_ix (by omega) (by omega)) fun a _ hcell => ?_
                have q := hcell 0 _ rfl
                rw [add0] at q
                exact ⟨_, q, A.setR hlt _ fun w' hR => Jval (s' := e.s) (by unfold ocV; rw [if_neg h1, if_neg h2, if_neg h3, if_neg h4, if_pos h5, if_neg hf]) hR⟩
              · have hf : b88 < 0 ∨ (e.s.mem.length : Int) ≤ b88 := by rw [Bool.not_eq_false'] at hf; exact of_decide_eq_true hf
                rw [show decide (b88 < 0 ∨ (e.s.mem.length : Int) ≤ b88) = true from decide_eq_true hf]
                exact Jex (by unfold ocV; rw [if_neg h1, if_neg h2, if_neg h3, if_neg h4, if_pos h5, if_pos hf]) A
            · refine brB_of (fun hb => ⟨?_, rfl⟩) (fun hb => ⟨S2.mem, A.ob.cell rfl, ?_, rfl⟩)
              · have hb := of_decide_eq_true hb
                symm; apply decide_eq_true; omega
              · have hb := of_decide_eq_false hb
                rw [s3, Bool.eq_iff_iff]; simp; omega
          · have h1 := neb h1
            have h2 := neb h2
            have h3 := neb h3
            have h4 := neb h4
            have h5 := neb h5
            have h6 := eqb h6
            have hml := A.me.rd.len
            have hmc := A.me.rd.capL
            refine ⟨fun b w' => b = decide (b88 < 0 ∨ (e.s.mem.length : Int) ≤ b88) ∧ w' = w64, ?_, ?_⟩
            · rintro b w114 ⟨rfl, rfl⟩
              refine brB_of (fun hf => ?_) (fun hf => ?_)
              · have hf : ¬ (b88 < 0 ∨ (e.s.mem.length : Int) ≤ b88) := by rw [Bool.not_eq_true'] at hf; exact of_decide_eq_false hf
                rw [show decide (b88 < 0 ∨ (e.s.mem.length : Int) ≤ b88) = false from decide_eq_false hf]
                refine ⟨S2.mem, A.ob.cell rfl, ?_⟩
                rw [s3]
                refine A.setM (by omega) (by omega) c89 fun w118 hR => ?_
                have hwl := hwa.len
                have hwc := hwa.capL
                have k118 : Chg No w w118 := k53.trans hR.chg (fun _ _ h => h) (fun k hk he => by have := bB k he; omega)
                refine ⟨fun n w' => ∃ j : Nat, n = j ∧ j ≤ wl.length ∧ b88 ∉ wl.take j ∧ w' = w118, fun n _ => wl.length - n.toNat, ⟨0, rfl, Nat.zero_le _, by simp, rfl⟩, ?_⟩
                rintro n w119 ⟨j, rfl, hj, hno, rfl⟩
                refine brB_of (fun hltj => ?_) (fun hltj => ?_)
                · have hltj : j < wl.length := by simp at hltj; omega
                  obtain ⟨x, hx'⟩ : ∃ x, wl[j]? = some x := ⟨_, List.getElem?_eq_getElem hltj⟩
                  refine (hwa.no k118).ix (i := (j : Int)) (by omega) (by rw [Int.toNat_natCast]; exact hx') fun a _ hcell => ?_
                  have q := hcell 0 _ rfl
                  rw [add0] at q
                  refine ⟨x, q, brB_of (fun hxb => ?_) (fun hxb => ?_)⟩
                  · have hxb : x = b88 := by simpa using hxb
                    have hmem : b88 ∈ wl := hxb ▸ List.mem_of_getElem? hx'
                    have ho : ocV i.a i.b b88 c89 e.s wl = .hit { e.s with mem := e.s.mem.set b88.toNat c89 } b88 := by unfold ocV; rw [if_neg h1, if_neg h2, if_neg h3, if_neg h4, if_neg h5, if_pos h6, if_neg hf, if_pos hmem]
                    have hxo := e6 _ (ocV_hit ho).2
                    have hend : runG v s wl = (i.b, { e with s := { e.s with mem := e.s.mem.set b88.toNat c89 }, hit := b88 }) := by rw [hrun', goV_hit (hoc.trans ho) hxo.1]
                    intro w123 hw123
                    have c123 := dw hw123
                    have c194 : Chg (fun k => k = b23 ∨ s28.blk = some k ∨ rS.blk = some k) w33 w114 := (hA.chg.trans c46 (fun _ _ h => h) (fun _ _ h => h.elim)).trans c53 (fun _ _ h => h) (fun _ _ h => h.elim)
                    have hR33 := hR.re c194
                    have hR196 := hR33.no c123
                    have hRh : RnAt w33 w123 b23 S s28 rS v.ins.length S2 { e with s := { e.s with mem := e.s.mem.set b88.toNat c89 }, hit := b88 } := ⟨hR196.ob, hR196.nums, hR196.same, hR196.me, hR196.rg, hR196.len, hR196.mp, hR196.rp, hR196.chg⟩
                    have u21 := (r21.chg hR33.chg (fun he => by have := bB _ he; omega)).no c123
                    have u25 := (r25.chg hR33.chg (fun he => by have := bB _ he; omega)).no c123
                    have u23 := hR196.ob
                    have u44 := (b44N hR.chg).no c123
                    have d21 : ∀ {j : Nat} {u : Value}, (trP t)[j]? = some u → held (fun w' => Chg (fun k => k = b25) w123 w') ⟨b21, j, none⟩ u := fun h => Ob.held (fun w' c => u21.chg c (fun he => by omega)) h
                    have d23 : ∀ {j : Nat} {u : Value}, (stC S2)[j]? = some u → held (fun w' => Chg (fun k => k = b25) w123 w') ⟨b23, j, none⟩ u := fun h => Ob.held (fun w' c => u23.chg c (fun he => by omega)) h
                    have d44 : ∀ {j : Nat} {u : Value}, (insC i)[j]? = some u → held (fun w' => Chg (fun k => k = b25) w123 w') ⟨b44, j, none⟩ u := fun h => Ob.held (fun w' c => u44.chg c (fun he => by omega)) h
                    refine ⟨fun w' => Chg (fun k => k = b25) w123 w', Chg.refl _ _, _, _, _, _, _, _, _, _, _, d21 rfl, d21 rfl, d21 rfl, d21 rfl, d21 rfl, d21 rfl, d21 rfl, d21 rfl, d21 rfl, ?_⟩
                    refine ⟨_, _, _, _, _, _, _, _, _, _, d23 rfl, d23 rfl, d23 rfl, d23 rfl, d23 rfl, d23 rfl, d23 rfl, d23 rfl, d23 rfl, d23 rfl, _, d44 rfl, _, d44 rfl, (fin w123 S2 _ i.b k hRh hs1 hs2 hk hxo).mono ?_⟩
                    rintro r w220 ⟨S4, rfl, c220, f7⟩
                    have v25 := u25.no c220
                    refine ⟨_, _, _, _, _, _, _, _, _, _, rfl, c220.mono (fun _ _ h => h.elim), v25.wr (by simp [stC]), fun w231 hw231 => ?_⟩
                    obtain ⟨x25, c231⟩ := v25.up (k := 0) (vs := stC S4) (cs' := stC S4) (by simp [stC]) rfl hw231
                    obtain ⟨f8, f9⟩ := f7 w231 c231
                    refine ⟨c220.trans c231 (fun _ _ h => h.elim) (fun _ _ h => h), _, _, _, _, _, _, _, _, _, _, x25.cell rfl, x25.cell rfl, x25.cell rfl, x25.cell rfl, x25.cell rfl, x25.cell rfl, x25.cell rfl, x25.cell rfl, x25.cell rfl, x25.cell rfl, S4, ?_, ?_, f9⟩
                    · rw [hend, show decide (b88 ≥ 0) = true from decide_eq_true (by omega)]; rfl
                    · rw [hend]; exact f8
                  · have hxb : x ≠ b88 := by simpa using hxb
                    rw [wr_in (by omega)]
                    refine ⟨⟨j + 1, by omega, by omega, ?_, rfl⟩, by show wl.length - Int.toNat ((j : Int) + 1) < wl.length - Int.toNat (j : Int); omega⟩
                    rw [List.take_add_one, hx']
                    simp only [Option.toList_some, List.mem_append, List.mem_singleton]
                    exact fun h => h.elim hno (fun he => hxb he.symm)
                · have hltj : j = wl.length := by simp at hltj; omega
                  subst hltj
                  rw [List.take_length] at hno
                  exact Jgo (s' := { e.s with mem := e.s.mem.set b88.toNat c89 }) (by unfold ocV; rw [if_neg h1, if_neg h2, if_neg h3, if_neg h4, if_neg h5, if_pos h6, if_neg hf, if_neg hno]) hR
              · have hf : b88 < 0 ∨ (e.s.mem.length : Int) ≤ b88 := by rw [Bool.not_eq_false'] at hf; exact of_decide_eq_true hf
                rw [show decide (b88 < 0 ∨ (e.s.mem.length : Int) ≤ b88) = true from decide_eq_true hf]
                exact Jex (by unfold ocV; rw [if_neg h1, if_neg h2, if_neg h3, if_neg h4, if_neg h5, if_pos h6, if_pos hf]) A
            · refine brB_of (fun hb => ⟨?_, rfl⟩) (fun hb => ⟨S2.mem, A.ob.cell rfl, ?_, rfl⟩)
              · have hb := of_decide_eq_true hb
                symm; apply decide_eq_true; omega
              · have hb := of_decide_eq_false hb
                rw [s3, Bool.eq_iff_iff]; simp; omega
          · have h1 := neb h1
            have h2 := neb h2
            have h3 := neb h3
            have h4 := neb h4
            have h5 := neb h5
            have h6 := neb h6
            have h7 := eqb h7
            by_cases hb : b88 = 0
            · rw [show (b88 == (0 : Int)) = true by simpa using hb]
              exact Jex (by unfold ocV; rw [if_neg h1, if_neg h2, if_neg h3, if_neg h4, if_neg h5, if_neg h6, if_pos h7, if_neg (by omega)]) A
            · rw [show (b88 == (0 : Int)) = false by simpa using hb]
              exact Jgo (s' := e.s) (by unfold ocV; rw [if_neg h1, if_neg h2, if_neg h3, if_neg h4, if_neg h5, if_neg h6, if_pos h7, if_pos hb]) A
          · have h1 := neb h1
            have h2 := neb h2
            have h3 := neb h3
            have h4 := neb h4
            have h5 := neb h5
            have h6 := neb h6
            have h7 := neb h7
            have h8 := eqb h8
            by_cases hb : b88 = 0
            · rw [show (b88 != (0 : Int)) = false by simpa using hb]
              exact Jgo (s' := e.s) (by unfold ocV; rw [if_neg h1, if_neg h2, if_neg h3, if_neg h4, if_neg h5, if_neg h6, if_neg h7, if_pos h8, if_pos hb]) A
            · rw [show (b88 != (0 : Int)) = true by simpa using hb]
              exact Jex (by unfold ocV; rw [if_neg h1, if_neg h2, if_neg h3, if_neg h4, if_neg h5, if_neg h6, if_neg h7, if_pos h8, if_neg hb]) A
          · have h1 := neb h1
            have h2 := neb h2
            have h3 := neb h3
            have h4 := neb h4
            have h5 := neb h5
            have h6 := neb h6
            have h7 := neb h7
            have h8 := neb h8
            have h9 := eqb h9
            by_cases hb : b88 = c89
            · rw [show (b88 != c89) = false by simpa using hb]
              exact Jgo (s' := e.s) (by unfold ocV; rw [if_neg h1, if_neg h2, if_neg h3, if_neg h4, if_neg h5, if_neg h6, if_neg h7, if_neg h8, if_pos h9, if_pos hb]) A
            · rw [show (b88 != c89) = true by simpa using hb]
              exact Jex (by unfold ocV; rw [if_neg h1, if_neg h2, if_neg h3, if_neg h4, if_neg h5, if_neg h6, if_neg h7, if_neg h8, if_pos h9, if_neg hb]) A
          · have h1 := neb h1
            have h2 := neb h2
            have h3 := neb h3
            have h4 := neb h4
            have h5 := neb h5
            have h6 := neb h6
            have h7 := neb h7
            have h8 := neb h8
            have h9 := neb h9
            obtain ⟨x1, x2, x3⟩ := htx
            refine ⟨fun b w' => b = decide (i.a = 10 ∨ i.a = 11) ∧ w' = w64, ?_, ?_⟩
            · rintro b w169 ⟨rfl, rfl⟩
              refine brB_of (fun hsay => ?_) (fun hsay => ?_)
              · have hsay := of_decide_eq_true hsay
                intro b171 w172 hb171 hw172
                obtain ⟨l172, c172⟩ := lit8 (byteC b88) (by rw [byteC_and]; exact byte_lit _) hb171 hw172
                have A172 := A.no c172
                have o172 := o53.no c172
                have hsz := sayV_size i.a b88
                refine ⟨_, w172, u8_str (s := ⟨some ⟨b171, 0, none⟩, 1, 1⟩) l172.rd (by simp), fun x w' => x = sayV i.a b88 ∧ Chg No w172 w', ?_, ?_⟩
                · rintro x w179 ⟨rfl, c179⟩
                  have A179 := A172.no c179
                  refine ⟨S2.out, A179.ob.cell rfl, ?_⟩
                  rw [m3, wr_in (by omega)]
                  by_cases hbig : 2000 < (e.s.out.size : Int) + (sayV i.a b88).size
                  · rw [show decide ((e.s.out.size : Int) + (sayV i.a b88).size > 2000) = true from decide_eq_true hbig]
                    exact brB_f (Jex (by unfold ocV; rw [if_neg h1, if_neg h2, if_neg h3, if_neg h4, if_neg h5, if_neg h6, if_neg h7, if_neg h8, if_neg h9, if_pos hsay, if_pos hbig]) A179)
                  · rw [show decide ((e.s.out.size : Int) + (sayV i.a b88).size > 2000) = false from decide_eq_false hbig]
                    refine brB_t ⟨S2.out, A179.ob.cell rfl, by rw [m3]; omega, ?_⟩
                    refine A179.setP (k := 5) (by omega) { S2 with out := S2.out ++ sayV i.a b88 } (s3 := { e.s with out := e.s.out ++ sayV i.a b88 }) rfl ⟨m1, m2, by rw [m3], m4, m5, m6, m7⟩ ⟨rfl, rfl, rfl⟩ rfl fun w' hR => ?_
                    exact Jgo (by unfold ocV; rw [if_neg h1, if_neg h2, if_neg h3, if_neg h4, if_neg h5, if_neg h6, if_neg h7, if_neg h8, if_neg h9, if_pos hsay, if_neg hbig]) hR
                · refine ⟨i.a, o172.cell rfl, brB_of (fun h11 => ?_) (fun h11 => ?_)⟩
                  · have h11 := eqb h11
                    refine (rput_any b88 _).mono ?_
                    rintro e' w177 ⟨rfl, rfl⟩
                    have := putV_size b88
                    refine ⟨_, rfl, ?_, ?_, Chg.refl _ _⟩
                    · show _ + (1 : Int) ≤ _; omega
                    · unfold sayV; rw [if_pos h11]
                  · have h11 := neb h11
                    refine ⟨?_, Chg.refl _ _⟩
                    unfold sayV; rw [if_neg h11]
              · have hsay := of_decide_eq_false hsay
                refine A.setR hlt (-1) fun w185 hR => ?_
                refine ⟨S2.read, hR.ob.cell rfl, S2.inp, hR.ob.cell rfl, ?_⟩
                rw [m4, m5]
                refine brB_of (fun hrd => ?_) (fun hrd => ?_)
                · have hrd := of_decide_eq_true hrd
                  refine ⟨S2.inp, hR.ob.cell rfl, S2.read, hR.ob.cell rfl, ?_⟩
                  rw [m4, m5]
                  refine ⟨x3, hrd, hR.setR hlt _ fun w191 hR2 => ?_⟩
                  refine ⟨S2.read, hR2.ob.cell rfl, ?_⟩
                  have hsb : 0 ≤ sb e.s.inp e.s.read ∧ sb e.s.inp e.s.read < 256 := by
                    unfold sb
                    have := ((e.s.inp.data[e.s.read.toNat]?).getD 0).toNat_lt
                    omega
                  rw [m5, wr_in (x := e.s.read + 1) (by omega)]
                  rw [wr_in (x := sb e.s.inp e.s.read) (by omega)] at hR2
                  have hset : setV (idA v.ins.length) k (sb e.s.inp e.s.read) (setV (idA v.ins.length) k (-1) e) = setV (idA v.ins.length) k (sb e.s.inp e.s.read) e := by unfold setV; simp
                  rw [hset] at hR2
                  refine hR2.setP (k := 7) (by omega) { S2 with read := e.s.read + 1 } (s3 := { e.s with read := e.s.read + 1 }) rfl ⟨m1, m2, m3, m4, rfl, m6, m7⟩ ⟨rfl, rfl, rfl⟩ rfl fun w' hR3 => ?_
                  exact Jval (s' := { e.s with read := e.s.read + 1 }) (by unfold ocV; rw [if_neg h1, if_neg h2, if_neg h3, if_neg h4, if_neg h5, if_neg h6, if_neg h7, if_neg h8, if_neg h9, if_neg hsay, if_neg (by omega)]) hR3
                · have hrd := of_decide_eq_false hrd
                  exact Jval (s' := e.s) (by unfold ocV; rw [if_neg h1, if_neg h2, if_neg h3, if_neg h4, if_neg h5, if_neg h6, if_neg h7, if_neg h8, if_neg h9, if_neg hsay, if_pos (by omega)]) hR
            · refine brB_of (fun h10 => ⟨?_, rfl⟩) (fun h10 => ⟨?_, rfl⟩)
              all_goals rw [Bool.eq_iff_iff]; simp at *; omega
      · have hul := gu.rd.len
        refine brB_of (fun hl => ?_) (fun hl => ?_)
        · have hl := of_decide_eq_true hl
          have hl1 : 1 < (usesV i).length := by omega
          refine gu.rd.ix (i := 1) (by omega) (useD hl1) fun a _ hcell => ?_
          have q := hcell 0 _ rfl
          rw [add0] at q
          refine ⟨i.d, q, A.rg.rd.ix (rngD hl1).1 (getI_ix (rngD hl1).1 (by rw [A.len]; exact (rngD hl1).2)) fun a' _ hcell' => ?_⟩
          have q' := hcell' 0 _ rfl
          rw [add0] at q'
          exact ⟨_, q', by rw [hcv, if_pos hl1], rfl⟩
        · have hl := of_decide_eq_false hl
          exact ⟨by rw [hcv, if_neg (by omega)], rfl⟩
    · have hul := gu.rd.len
      refine brB_of (fun hl => ?_) (fun hl => ?_)
      · have hl := of_decide_eq_true hl
        have hl1 : 0 < (usesV i).length := by omega
        refine gu.rd.ix (i := 0) (by omega) (useC hl1) fun a _ hcell => ?_
        have q := hcell 0 _ rfl
        rw [add0] at q
        refine ⟨i.c, q, A.rg.rd.ix (rngC hl1).1 (getI_ix (rngC hl1).1 (by rw [A.len]; exact (rngC hl1).2)) fun a' _ hcell' => ?_⟩
        have q' := hcell' 0 _ rfl
        rw [add0] at q'
        exact ⟨_, q', by rw [hbv, if_pos hl1], rfl⟩
      · have hl := of_decide_eq_false hl
        exact ⟨by rw [hbv, if_neg (by omega)], rfl⟩
  · have hlt : k = v.ins.length := by simp at hlt; omega
    subst hlt
    rw [List.drop_length] at hrun'
    have hend : runG v s wl = (v.last, e) := hrun'
    have hlast : t.last = v.last := ht.nums.2.2.2.2.2
    intro w242 hw242
    have c242 := dw hw242
    have hR196 := hA.no c242
    have u21 := t21.no c242
    have u25 := t25.no c242
    have u23 := hR196.ob
    have d21 : ∀ {j : Nat} {u : Value}, (trP t)[j]? = some u → held (fun w' => Chg (fun k => k = b25) w242 w') ⟨b21, j, none⟩ u := fun h => Ob.held (fun w' c => u21.chg c (fun he => by omega)) h
    have d23 : ∀ {j : Nat} {u : Value}, (stC S2)[j]? = some u → held (fun w' => Chg (fun k => k = b25) w242 w') ⟨b23, j, none⟩ u := fun h => Ob.held (fun w' c => u23.chg c (fun he => by omega)) h
    have dl : held (fun w' => Chg (fun k => k = b25) w242 w') ⟨b21, 7, none⟩ (.int .i64 v.last) := by rw [← hlast]; exact d21 rfl
    refine ⟨fun w' => Chg (fun k => k = b25) w242 w', Chg.refl _ _, _, _, _, _, _, _, _, _, _, d21 rfl, d21 rfl, d21 rfl, d21 rfl, d21 rfl, d21 rfl, d21 rfl, d21 rfl, d21 rfl, ?_⟩
    refine ⟨_, _, _, _, _, _, _, _, _, _, d23 rfl, d23 rfl, d23 rfl, d23 rfl, d23 rfl, d23 rfl, d23 rfl, d23 rfl, d23 rfl, d23 rfl, v.last, dl, v.last, dl, (fin w242 S2 e v.last v.ins.length hR196 hs1 hs2 (Nat.le_refl _) hr.last).mono ?_⟩
    rintro r w220 ⟨S4, rfl, c220, f7⟩
    have v25 := u25.no c220
    refine ⟨_, _, _, _, _, _, _, _, _, _, rfl, c220.mono (fun _ _ h => h.elim), v25.wr (by simp [stC]), fun w231 hw231 => ?_⟩
    obtain ⟨x25, c231⟩ := v25.up (k := 0) (vs := stC S4) (cs' := stC S4) (by simp [stC]) rfl hw231
    obtain ⟨f8, f9⟩ := f7 w231 c231
    refine ⟨c220.trans c231 (fun _ _ h => h.elim) (fun _ _ h => h), _, _, _, _, _, _, _, _, _, _, x25.cell rfl, x25.cell rfl, x25.cell rfl, x25.cell rfl, x25.cell rfl, x25.cell rfl, x25.cell rfl, x25.cell rfl, x25.cell rfl, x25.cell rfl, S4, ?_, ?_, f9⟩
    · rw [hend, show decide (e.hit ≥ 0) = false from decide_eq_false (by omega)]; rfl
    · rw [hend]; exact f8
end Go.Proofs.YtblmoilneiffgaaGreat
