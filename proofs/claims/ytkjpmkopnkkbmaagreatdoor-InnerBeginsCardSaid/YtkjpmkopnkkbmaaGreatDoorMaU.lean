/- Code that is laid into a memory; the memory at the beginning; laws on stacks, memory, loops. No program in sight. -/
import Derived.Test.YtkjpmkopnkkbmaaGreatDoorMaT
import Derived.Test.YtkjpmkopnkkbmaaGreatDoorCellBits
import Derived.Test.YtkjpmkopnkkbmaaGreatDoorLwS
set_option maxRecDepth 100000
namespace Go.Proofs.YtkjpmkopnkkbmaaGreatDoor
open Go.RowKit

/-- A memory with code laid into it. -/
def lay (mem : List Int) (at_ : Nat) (code : List Int) : List Int := mem.take at_ ++ (code ++ mem.drop (at_ + code.length))
theorem lay_len {mem : List Int} {at_ : Nat} {code : List Int} (h : at_ + code.length ≤ mem.length) : (lay mem at_ code).length = mem.length := by
  unfold lay; simp; omega
theorem lay_nil (mem : List Int) (at_ : Nat) : lay mem at_ [] = mem := by
  unfold lay; simp
theorem lay_snoc {mem : List Int} {at_ : Nat} {code : List Int} {x : Int} (h : at_ + code.length < mem.length) : (lay mem at_ code).set (at_ + code.length) x = lay mem at_ (code ++ [x]) := by
  unfold lay
  have e1 : (mem.take at_).length = at_ := by rw [List.length_take]; omega
  have e2 : (mem.take at_ ++ (code ++ mem.drop (at_ + code.length))).set (at_ + code.length) x = mem.take at_ ++ (code ++ mem.drop (at_ + code.length)).set code.length x := by
    rw [List.set_append_right _ _ (by omega), e1, Nat.add_sub_cancel_left]
  rw [e2, List.set_append_right _ _ (Nat.le_refl _), Nat.sub_self, List.drop_eq_getElem_cons h, List.set_cons_zero, List.append_assoc, List.length_append, List.length_singleton]
  rfl
theorem lay_in {mem : List Int} {at_ : Nat} {code : List Int} (h : at_ + code.length ≤ mem.length) {i : Nat} (hi : i < code.length) : getI (lay mem at_ code) ((at_ + i : Nat) : Int) = code.getD i 0 := by
  unfold getI lay
  have e1 : (mem.take at_).length = at_ := by rw [List.length_take]; omega
  rw [Int.toNat_natCast, List.getD_eq_getElem?_getD, List.getElem?_append_right (by omega), e1, Nat.add_sub_cancel_left, List.getElem?_append_left hi, List.getD_eq_getElem?_getD]
theorem lay_out {mem : List Int} {at_ : Nat} {code : List Int} (h : at_ + code.length ≤ mem.length) {i : Int} (hi : i.toNat < at_ ∨ at_ + code.length ≤ i.toNat) : getI (lay mem at_ code) i = getI mem i := by
  unfold getI lay
  have e1 : (mem.take at_).length = at_ := by rw [List.length_take]; omega
  rw [List.getD_eq_getElem?_getD, List.getD_eq_getElem?_getD]
  rcases hi with hi | hi
  · rw [List.getElem?_append_left (by omega), List.getElem?_take_of_lt hi]
  · rw [List.getElem?_append_right (by omega), e1, List.getElem?_append_right (by omega), List.getElem?_drop]
    congr 2; omega
theorem bootM_len (n : Nat) : (bootM n).length = n := by unfold bootM; simp
theorem bootM_at {n : Nat} {i : Int} (h : i.toNat < n) : getI (bootM n) i = bootC i.toNat := by
  unfold getI bootM
  rw [List.getD_eq_getElem?_getD, List.getElem?_map, List.getElem?_range h]; rfl
theorem has_getI {mem : List Int} : ∀ {code : List Int} {at_ : Int}, 0 ≤ at_ → at_ + code.length ≤ mem.length → (∀ i : Nat, i < code.length → getI mem (at_ + i) = code.getD i 0) → HasC mem at_ code
  | [], _, _, _, _ => trivial
  | x :: r, at_, h0, hl, h => by
    rw [List.length_cons] at hl
    refine ⟨⟨h0, by omega, by simpa using h 0 (by simp)⟩, has_getI (by omega) (by omega) fun i hi => ?_⟩
    have := h (i + 1) (by simpa using hi)
    rw [show at_ + 1 + (i : Int) = at_ + ((i + 1 : Nat) : Int) by omega, this]; simp
theorem has_lay {mem : List Int} {at_ : Nat} {code : List Int} (h : at_ + code.length ≤ mem.length) : HasC (lay mem at_ code) at_ code :=
  has_getI (by omega) (by rw [lay_len h]; omega) fun i hi => by
    have := lay_in h hi
    rwa [show ((at_ : Int) + (i : Int)) = ((at_ + i : Nat) : Int) by omega]
theorem has_app {mem : List Int} : ∀ {a b : List Int} {at_ : Int}, HasC mem at_ (a ++ b) → HasC mem at_ a ∧ HasC mem (at_ + a.length) b
  | [], b, at_, h => ⟨trivial, by simpa using h⟩
  | x :: a, b, at_, h => by
    obtain ⟨h1, h2⟩ := h
    obtain ⟨h3, h4⟩ := has_app h2
    refine ⟨⟨h1, h3⟩, ?_⟩
    rw [List.length_cons, show at_ + ((a.length + 1 : Nat) : Int) = at_ + 1 + a.length by omega]; exact h4
/-- A machine with code at 200. -/
def stk (ip : Int) (l bk M : List Int) : StV := ⟨ip, 0, l, bk, M, bs [], bs [], 0, 0, 0⟩

theorem w64_in {x : Int} (h : -9223372036854775808 ≤ x ∧ x ≤ 9223372036854775807) : wrap64 x = x := by unfold wrap64; omega
theorem neg_neg_in {c : Int} (h : Cn.In c) : wrap64 (-(wrap64 (-c))) = c := by
  unfold Cn.In at h; unfold wrap64; omega
theorem inv_inv_in {c : Int} (h : Cn.In c) : Cn.one 20 (Cn.one 20 c) = c := by
  have e : ∀ x, Cn.one 20 x = wrap64 (-1 - x) := fun x => by
    exact Cn.not_law (a := x)
  rw [e, e]
  unfold Cn.In at h; unfold wrap64; omega

/-! ### Stacks -/
section
variable {l bk M : List Int} {a b c : Int}
theorem st_swap (h : HasC M 200 [8, 8]) (hl : l.length ≤ 30) (hb : bk.length ≤ 40) : mRun 2 (stk 200 (l ++ [a, b, c]) bk M) = (stk 202 (l ++ [a, b, c]) bk M, 0) := by
  have e : l ++ [a, b, c] = (l ++ [a]) ++ [b, c] := by simp
  rw [e]; unfold stk
  rw [run_swap h.1 (by simp; omega) (by omega), run_swap h.2.1 (by simp; omega) (by omega)]; rfl
theorem st_rot (h : HasC M 200 [10, 10, 10]) (hl : l.length ≤ 30) (hb : bk.length ≤ 40) : mRun 3 (stk 200 (l ++ [a, b, c]) bk M) = (stk 203 (l ++ [a, b, c]) bk M, 0) := by
  unfold stk
  rw [run_rot h.1 (by omega) (by omega), run_rot h.2.1 (by omega) (by omega), run_rot h.2.2.1 (by omega) (by omega)]; rfl
theorem st_dup (h : HasC M 200 [6, 7]) (hl : l.length ≤ 30) (hb : bk.length ≤ 40) : mRun 2 (stk 200 (l ++ [a, b, c]) bk M) = (stk 202 (l ++ [a, b, c]) bk M, 0) := by
  have e : l ++ [a, b, c] = (l ++ [a, b]) ++ [c] := by simp
  rw [e]; unfold stk
  have e2 : (l ++ [a, b]) ++ [c, c] = ((l ++ [a, b]) ++ [c]) ++ [c] := by simp
  rw [run_dup h.1 (by simp; omega) (by omega), e2, run_drop h.2.1 (by simp; omega) (by omega)]; rfl
theorem st_copy (h : HasC M 200 [9, 7]) (hl : l.length ≤ 30) (hb : bk.length ≤ 40) : mRun 2 (stk 200 (l ++ [a, b, c]) bk M) = (stk 202 (l ++ [a, b, c]) bk M, 0) := by
  have e : l ++ [a, b, c] = (l ++ [a]) ++ [b, c] := by simp
  rw [e]; unfold stk
  have e2 : (l ++ [a]) ++ [b, c, b] = ((l ++ [a]) ++ [b, c]) ++ [b] := by simp
  rw [run_copy h.1 (by simp; omega) (by omega), e2, run_drop h.2.1 (by simp; omega) (by omega)]; rfl
theorem st_over (h : HasC M 200 [33, 34]) (hl : l.length ≤ 30) (hb : bk.length ≤ 40) : mRun 2 (stk 200 (l ++ [a, b, c]) bk M) = (stk 202 (l ++ [a, b, c]) bk M, 0) := by
  have e : l ++ [a, b, c] = (l ++ [a, b]) ++ [c] := by simp
  rw [e]; unfold stk
  rw [run_toBack h.1 (by simp; omega) (by omega), run_fromBack h.2.1 (by simp; omega) (by omega)]; rfl
theorem st_neg (hc : Cn.In c) (h : HasC M 200 [16, 16]) (hl : l.length ≤ 30) (hb : bk.length ≤ 40) : mRun 2 (stk 200 (l ++ [a, b, c]) bk M) = (stk 202 (l ++ [a, b, c]) bk M, 0) := by
  have e : l ++ [a, b, c] = (l ++ [a, b]) ++ [c] := by simp
  rw [e]; unfold stk
  have e3 : wrap64 (-(wrap64 (-c))) = c := neg_neg_in hc
  rw [run_negate h.1 (by simp; omega) (by omega), run_negate h.2.1 (by simp; omega) (by omega), e3]; rfl
theorem st_inv (hc : Cn.In c) (h : HasC M 200 [20, 20]) (hl : l.length ≤ 30) (hb : bk.length ≤ 40) : mRun 2 (stk 200 (l ++ [a, b, c]) bk M) = (stk 202 (l ++ [a, b, c]) bk M, 0) := by
  have e : l ++ [a, b, c] = (l ++ [a, b]) ++ [c] := by simp
  rw [e]; unfold stk
  have e3 : Cn.one 20 (Cn.one 20 c) = c := inv_inv_in hc
  rw [run_invert h.1 (by simp; omega) (by omega), run_invert h.2.1 (by simp; omega) (by omega), e3]; rfl
theorem st_lit (h : HasC M 200 [2, b, 7]) (hl : l.length ≤ 30) (hb : bk.length ≤ 40) : mRun 2 (stk 200 (l ++ [a, b, c]) bk M) = (stk 203 (l ++ [a, b, c]) bk M, 0) := by
  unfold stk
  rw [run_lit h.1 h.2.1 (by simp; omega) (by omega), run_drop h.2.2.1 (by simp; omega) (by omega)]; rfl
theorem st_atBack (h : HasC M 200 [33, 35, 34, 7]) (hl : l.length ≤ 30) (hb : bk.length ≤ 40) : mRun 4 (stk 200 (l ++ [a, b, c]) bk M) = (stk 204 (l ++ [a, b, c]) bk M, 0) := by
  have e : l ++ [a, b, c] = (l ++ [a, b]) ++ [c] := by simp
  rw [e]; unfold stk
  rw [run_toBack h.1 (by simp; omega) (by omega), run_atBack h.2.1 (by simp; omega) (by omega), run_fromBack h.2.2.1 (by simp; omega) (by omega), run_drop h.2.2.2.1 (by simp; omega) (by omega)]; rfl
theorem st_copies (h : HasC M 200 [9, 9, 7, 7]) (hl : l.length ≤ 30) (hb : bk.length ≤ 40) : mRun 4 (stk 200 (l ++ [a, b, c]) bk M) = (stk 204 (l ++ [a, b, c]) bk M, 0) := by
  have e : l ++ [a, b, c] = (l ++ [a]) ++ [b, c] := by simp
  rw [e]; unfold stk
  have e2 : (l ++ [a]) ++ [b, c, b] = ((l ++ [a]) ++ [b]) ++ [c, b] := by simp
  have e3 : ((l ++ [a]) ++ [b]) ++ [c, b, c] = (((l ++ [a]) ++ [b]) ++ [c, b]) ++ [c] := by simp
  have e4 : ((l ++ [a]) ++ [b]) ++ [c, b] = ((l ++ [a]) ++ [b, c]) ++ [b] := by simp
  rw [run_copy h.1 (by simp; omega) (by omega), e2, run_copy h.2.1 (by simp; omega) (by omega), e3, run_drop h.2.2.1 (by simp; omega) (by omega), e4, run_drop h.2.2.2.1 (by simp; omega) (by omega)]; rfl
end

/-! ### Memory -/
theorem memory_law {M : List Int} {at_ v n : Int} (hv : Cn.In v) (h : HasC M 200 [2, v, 2, at_, 31, 2, n, 2, at_, 32, 2, at_, 30]) (h0 : 0 ≤ at_) (h1 : at_ < M.length) (ha : ¬ (200 ≤ at_ ∧ at_ < 220)) :
    mRun 8 (stk 200 [] [] M) = (stk 213 [wr (v + n)] [] (M.set at_.toNat (wr (v + n))), 0) := by
  have e0 : wr (0 + v) = v := by rw [Int.zero_add]; exact wr_in hv
  have keep : ∀ {i c x : Int}, OpAt M i c → (200 ≤ i ∧ i < 213) → OpAt (M.set at_.toNat x) i c := fun {i c x} ho hi => by
    obtain ⟨o1, o2, o3⟩ := ho
    refine ⟨o1, by rw [List.length_set]; exact o2, ?_⟩
    rw [← o3]; unfold getI
    rw [List.getD_eq_getElem?_getD, List.getD_eq_getElem?_getD, List.getElem?_set_ne (by omega)]
  have self : ∀ x, getI (M.set at_.toNat x) at_ = x := fun x => by
    unfold getI; rw [List.getD_eq_getElem?_getD, List.getElem?_set_self (by omega)]; rfl
  have ln : ∀ x, (M.set at_.toNat x).length = M.length := fun x => List.length_set
  obtain ⟨a0, a1, a2, a3, a4, a5, a6, a7, a8, a9, a10, a11, a12, -⟩ := h
  unfold stk
  rw [show ([] : List Int) = [] ++ [] from rfl]
  rw [run_lit a0 a1 (by simp) (by simp), run_lit a2 a3 (by simp) (by simp)]
  simp only [List.nil_append, List.append_nil, List.cons_append]
  rw [show [v, at_] = [] ++ [v, at_] from rfl, run_store a4 ⟨h0, h1⟩ (by simp) (by simp), e0, run_lit (keep a5 (by omega)) (keep a6 (by omega)) (by simp) (by simp), run_lit (keep a7 (by omega)) (keep a8 (by omega)) (by simp) (by simp)]
  simp only [List.nil_append, List.cons_append]
  rw [show [n, at_] = [] ++ [n, at_] from rfl, run_addto (keep a9 (by omega)) ⟨h0, by rw [ln]; exact h1⟩ (by simp) (by simp), self, List.set_set, run_lit (keep a10 (by omega)) (keep a11 (by omega)) (by simp) (by simp)]
  simp only [List.nil_append]
  rw [show [at_] = [] ++ [at_] from rfl, run_fetch (keep a12 (by omega)) ⟨h0, by rw [ln]; exact h1⟩ (by simp) (by simp), self]
  rfl

/-! ### Loops -/
theorem ceil_one {d s : Int} (h0 : 0 < d) (h1 : d ≤ s) : (d + s - 1) / s = 1 := by
  have : d + s - 1 = (d - 1) + 1 * s := by omega
  rw [this, Int.add_mul_ediv_right _ _ (by omega), Int.ediv_eq_zero_of_lt (by omega) (by omega)]; rfl
theorem ceil_more {d s : Int} (h1 : s < d) (hs : 0 < s) : (d + s - 1) / s = (d - s + s - 1) / s + 1 := by
  have : d + s - 1 = (d - s + s - 1) + 1 * s := by omega
  rw [this, Int.add_mul_ediv_right _ _ (by omega)]
theorem crosses_small {x n : Int} (h0 : -100000 ≤ x) (h1 : x < 0) (h2 : 1 ≤ n) (h3 : n ≤ 60) : Cn.crosses x n = decide (0 ≤ x + n) := by
  rw [Cn.crosses_eq (by constructor <;> omega) (by constructor <;> omega)]
  have e : wrap64 (x + n) = x + n := w64_in (by omega)
  rw [e, decide_eq_true h1, decide_eq_false (p := n < 0) (by omega)]
  by_cases h : 0 ≤ x + n
  · rw [decide_eq_true h, decide_eq_false (by omega)]; rfl
  · rw [decide_eq_false h, decide_eq_true (by omega)]; rfl
theorem plus_rounds {M : List Int} {limit step : Int} (h : HasC M 207 [2, 1, 11, 2, step, 38, 207, 0]) (hl : -1000 ≤ limit ∧ limit ≤ 1000) (hs : 1 ≤ step ∧ step ≤ 60) :
    ∀ (r : Nat) (j i : Int) (n : Nat), -2000 ≤ i → i < limit → limit - i ≤ r → 0 ≤ j → j ≤ 1000 - r → 4 * r + 1 ≤ n → ∃ k, mRun n (stk 207 [j] [limit, i] M) = (⟨214, 0, [j + (limit - i + step - 1) / step], [], M, bs [], bs [], 0, 1, 0⟩, k)
  | 0, j, i, n, h0, h1, h2, _, _, _ => by omega
  | r + 1, j, i, n, h0, h1, h2, h3, h4, h5 => by
    obtain ⟨a0, a1, a2, a3, a4, a5, a6, a7, -⟩ := h
    obtain ⟨m, rfl⟩ : ∃ m, n = m + 4 := ⟨n - 4, by omega⟩
    unfold stk
    rw [show m + 4 = (((m + 1) + 1) + 1) + 1 from rfl, run_lit a0 a1 (by simp) (by simp)]
    simp only [List.cons_append, List.nil_append]
    have ew : wrap64 (j + 1) = j + 1 := w64_in (by omega)
    rw [show [j, 1] = [] ++ [j, 1] from rfl, run_add a2 (by simp) (by simp), ew, run_lit a3 a4 (by simp) (by simp)]
    have ex : wr (i - limit) = i - limit := wr_in (by omega)
    have hc := crosses_small (x := i - limit) (n := step) (by omega) (by omega) hs.1 hs.2
    rw [show [limit, i] = [] ++ [limit, i] from rfl]
    by_cases hx : 0 ≤ i - limit + step
    · rw [decide_eq_true hx] at hc
      rw [run_plusEnd a5 a6 (by rw [ex]; exact hc) (by simp) (by simp)]
      obtain ⟨m', rfl⟩ : ∃ m', m = m' + 1 := ⟨m - 1, by omega⟩
      rw [run_halt a7 (by simp) (by simp), ceil_one (by omega) (by omega)]
      exact ⟨m', rfl⟩
    · rw [decide_eq_false hx] at hc
      rw [run_plusGo a5 a6 (by rw [ex]; exact hc) (by simp) (by simp)]
      have ei : wr (i + step) = i + step := wr_in (by omega)
      obtain ⟨k, hk⟩ := plus_rounds ⟨a0, a1, a2, a3, a4, a5, a6, a7, trivial⟩ hl hs r (j + 1) (i + step) m (by omega) (by omega) (by omega) (by omega) (by omega) (by omega)
      refine ⟨k, ?_⟩
      rw [ei]
      rw [ceil_more (d := limit - i) (by omega) (by omega), show limit - i - step = limit - (i + step) by omega]
      rw [show j + ((limit - (i + step) + step - 1) / step + 1) = j + 1 + (limit - (i + step) + step - 1) / step by omega]
      exact hk
theorem loop_rounds {M : List Int} {limit : Int} (h : HasC M 207 [2, 1, 11, 37, 207, 0]) (hl : -1000 ≤ limit ∧ limit ≤ 1000) :
    ∀ (r : Nat) (j i : Int) (n : Nat), -2000 ≤ i → i < limit → limit - i ≤ r → 0 ≤ j → j ≤ 1000 - r → 3 * r + 1 ≤ n → ∃ k, mRun n (stk 207 [j] [limit, i] M) = (⟨212, 0, [j + (limit - i)], [], M, bs [], bs [], 0, 1, 0⟩, k)
  | 0, j, i, n, h0, h1, h2, _, _, _ => by omega
  | r + 1, j, i, n, h0, h1, h2, h3, h4, h5 => by
    obtain ⟨a0, a1, a2, a3, a4, a5, -⟩ := h
    obtain ⟨m, rfl⟩ : ∃ m, n = m + 3 := ⟨n - 3, by omega⟩
    unfold stk
    rw [show m + 3 = ((m + 1) + 1) + 1 from rfl, run_lit a0 a1 (by simp) (by simp)]
    simp only [List.cons_append, List.nil_append]
    have ew : wrap64 (j + 1) = j + 1 := w64_in (by omega)
    have ei : wr (i + 1) = i + 1 := wr_in (by omega)
    rw [show [j, 1] = [] ++ [j, 1] from rfl, run_add a2 (by simp) (by simp), ew, show [limit, i] = [] ++ [limit, i] from rfl]
    by_cases hx : i + 1 = limit
    · rw [run_loopEnd a3 a4 (by rw [ei]; exact hx) (by simp) (by simp)]
      obtain ⟨m', rfl⟩ : ∃ m', m = m' + 1 := ⟨m - 1, by omega⟩
      rw [run_halt a5 (by simp) (by simp), show limit - i = 1 by omega]
      exact ⟨m', rfl⟩
    · rw [run_loopGo a3 a4 (by rw [ei]; exact hx) (by simp) (by simp), ei]
      obtain ⟨k, hk⟩ := loop_rounds ⟨a0, a1, a2, a3, a4, a5, trivial⟩ hl r (j + 1) (i + 1) m (by omega) (by omega) (by omega) (by omega) (by omega) (by omega)
      refine ⟨k, ?_⟩
      rw [show j + (limit - i) = j + 1 + (limit - (i + 1)) by omega]
      exact hk
theorem plus_law {M : List Int} {limit start step : Int} (h : HasC M 200 [2, 0, 2, limit, 2, start, 36, 2, 1, 11, 2, step, 38, 207, 0]) (hl : -1000 ≤ limit ∧ limit ≤ 1000) (hs : 1 ≤ step ∧ step ≤ 60) (h0 : -1000 ≤ start) (h1 : start < limit) (h2 : limit - start ≤ 60) :
    ∃ k, mRun 2000 (stk 200 [] [] M) = (⟨214, 0, [(limit - start + step - 1) / step], [], M, bs [], bs [], 0, 1, 0⟩, k) := by
  obtain ⟨a0, a1, a2, a3, a4, a5, a6, hr⟩ := h
  have hr : HasC M 207 [2, 1, 11, 2, step, 38, 207, 0] := hr
  obtain ⟨k, hk⟩ := plus_rounds hr hl hs 60 0 start 1996 (by omega) h1 (by omega) (by omega) (by omega) (by omega)
  refine ⟨k, ?_⟩
  rw [Int.zero_add] at hk
  rw [← hk]
  unfold stk
  rw [run_lit a0 a1 (by simp) (by simp), run_lit a2 a3 (by simp) (by simp), run_lit a4 a5 (by simp) (by simp)]
  simp only [List.cons_append, List.nil_append]
  rw [show [0, limit, start] = [0] ++ [limit, start] from rfl, run_begin a6 (by simp) (by simp)]
  rfl
theorem loop_law {M : List Int} {limit start : Int} (h : HasC M 200 [2, 0, 2, limit, 2, start, 36, 2, 1, 11, 37, 207, 0]) (hl : -1000 ≤ limit ∧ limit ≤ 1000) (h0 : -1000 ≤ start) (h1 : start < limit) (h2 : limit - start ≤ 60) :
    ∃ k, mRun 2000 (stk 200 [] [] M) = (⟨212, 0, [limit - start], [], M, bs [], bs [], 0, 1, 0⟩, k) := by
  obtain ⟨a0, a1, a2, a3, a4, a5, a6, hr⟩ := h
  have hr : HasC M 207 [2, 1, 11, 37, 207, 0] := hr
  obtain ⟨k, hk⟩ := loop_rounds hr hl 60 0 start 1996 (by omega) h1 (by omega) (by omega) (by omega) (by omega)
  refine ⟨k, ?_⟩
  rw [Int.zero_add] at hk
  rw [← hk]
  unfold stk
  rw [run_lit a0 a1 (by simp) (by simp), run_lit a2 a3 (by simp) (by simp), run_lit a4 a5 (by simp) (by simp)]
  simp only [List.cons_append, List.nil_append]
  rw [show [0, limit, start] = [0] ++ [limit, start] from rfl, run_begin a6 (by simp) (by simp)]
  rfl
end Go.Proofs.YtkjpmkopnkkbmaaGreatDoor
