/- The walk of BuildStops. -/
import Derived.Test.YtkjpmkopnkkbmaaJU
import Derived.Test.YtkjpmkopnkkbmaaJV
import Derived.Test.YtkjpmkopnkkbmaaJQ
import Derived.Test.YtkjpmkopnkkbmaaJR
import Derived.Test.YtkjpmkopnkkbmaaJ3
import Derived.Test.YtkjpmkopnkkbmaaJ6
import Derived.Test.YtkjpmkopnkkbmaaJC
import Derived.Test.YtkjpmkopnkkbmaaJ2
import Derived.Test.YtkjpmkopnkkbmaaJS

/- The package build: what a recording needs; the document's own answer. -/
set_option maxRecDepth 100000
namespace Go.Proofs.Ytkjpmkopnkkbmaa
open Go.RowKit

/-- A stack as it is counted: its cells now, what it needs, how far it grows. -/
structure Dp where
  now : Int
  needs : Int
  grow : Int
def dStep (D : Dp) (t g : Int) : Dp := ⟨D.now + (g - t), imax D.needs (t - D.now), imax D.grow (D.now + (g - t))⟩
def d0 : Dp := ⟨0, 0, 0⟩
def nStep (P : Dp × Dp) (x : SnV) : Dp × Dp := (dStep P.1 (mT x) (mG x), dStep P.2 (mTB x) (mGB x))
def nV (l : List SnV) : Dp × Dp := l.foldl nStep (d0, d0)
theorem imax_le {a b c : Int} (h : a ≤ c) (k : b ≤ c) : imax a b ≤ c := by unfold imax; split <;> omega
theorem le_imax (a b : Int) : a ≤ imax a b ∧ b ≤ imax a b := by unfold imax; split <;> omega
theorem imax_of {a b : Int} (h : b ≤ a) : imax a b = a := by unfold imax; rw [if_neg (by omega)]
structure DOk (n : Nat) (D : Dp) : Prop where
  now : -4 * (n : Int) ≤ D.now ∧ D.now ≤ 4 * n
  needs : 0 ≤ D.needs ∧ D.needs ≤ 4 * n + 4 * n
  grow : 0 ≤ D.grow ∧ D.grow ≤ 4 * n
  lo : 0 ≤ D.needs + D.now
  hi : D.now ≤ D.grow
theorem d0_ok : DOk 0 d0 := ⟨⟨by decide, by decide⟩, ⟨by decide, by decide⟩, ⟨by decide, by decide⟩, by decide, by decide⟩
theorem dStep_ok {n : Nat} {D : Dp} (h : DOk n D) {t g : Nat} (ht : t ≤ 4) (hg : g ≤ 4) : DOk (n + 1) (dStep D t g) := by
  obtain ⟨a, b, c, d, e⟩ := h
  have m1 := le_imax D.needs ((t : Int) - D.now)
  have m2 := le_imax D.grow (D.now + ((g : Int) - t))
  have m3 : imax D.needs ((t : Int) - D.now) ≤ 4 * (n : Int) + 4 * n + 4 := imax_le (by omega) (by omega)
  have m4 : imax D.grow (D.now + ((g : Int) - t)) ≤ 4 * (n : Int) + 4 := imax_le (by omega) (by omega)
  refine ⟨⟨?_, ?_⟩, ⟨?_, ?_⟩, ⟨?_, ?_⟩, ?_, ?_⟩ <;> unfold dStep <;> simp only <;> omega
theorem dStep_00 {n : Nat} {D : Dp} (h : DOk n D) : dStep D 0 0 = D := by
  obtain ⟨now, needs, grow⟩ := D
  have lo : 0 ≤ needs + now := h.lo
  have hi : now ≤ grow := h.hi
  unfold dStep
  simp only
  rw [imax_of (by omega), imax_of (by omega)]
  congr 1; omega
theorem mv_small {x : SnV} (hx : singleB x = true) : mT x ≤ 4 ∧ mG x ≤ 4 ∧ mTB x ≤ 4 ∧ mGB x ≤ 4 := by
  unfold mT mG mTB mGB
  by_cases h : 64 ≤ x.cell
  · rw [if_pos h, if_pos h, if_pos h, if_pos h]; omega
  · rw [if_neg h, if_neg h, if_neg h, if_neg h]
    have hp : opPlain x.cell = true := by
      unfold singleB plB at hx
      simp only [Bool.and_eq_true, Bool.or_eq_true, decide_eq_true_eq] at hx
      exact hx.1.resolve_left h
    have hop : 0 ≤ x.cell ∧ x.cell < 48 ∧ x.cell ≠ 0 ∧ x.cell ≠ 1 ∧ x.cell ≠ 45 ∧ x.cell ≠ 46 := of_decide_eq_true hp
    have rs := (rows_small x.cell.toNat (by omega)).1
    rw [show ((x.cell.toNat : Nat) : Int) = x.cell by omega] at rs
    refine ⟨by omega, by omega, by omega, ?_⟩
    split <;> omega
theorem mv_int {x : SnV} (hx : singleB x = true) (h : ¬ 64 ≤ x.cell) : (opRow x.cell).takes = mT x ∧ (opRow x.cell).gives = mG x ∧ (opRow x.cell).backs = mTB x ∧ (if endsB x = true then 0 else (opRow x.cell).givesBak) = mGB x := by
  unfold mT mG mTB mGB
  rw [if_neg h, if_neg h, if_neg h, if_neg h]
  have hp : opPlain x.cell = true := by
    unfold singleB plB at hx
    simp only [Bool.and_eq_true, Bool.or_eq_true, decide_eq_true_eq] at hx
    exact hx.1.resolve_left h
  have hop : 0 ≤ x.cell ∧ x.cell < 48 ∧ x.cell ≠ 0 ∧ x.cell ≠ 1 ∧ x.cell ≠ 45 ∧ x.cell ≠ 46 := of_decide_eq_true hp
  have rs := (rows_small x.cell.toNat (by omega)).1
  rw [show ((x.cell.toNat : Nat) : Int) = x.cell by omega] at rs
  refine ⟨by omega, by omega, by omega, ?_⟩
  split
  · rfl
  · omega
theorem nV_ok {l : List SnV} (h : ∀ x ∈ l, singleB x = true) : ∀ n : Nat, n ≤ l.length → DOk n (nV (l.take n)).1 ∧ DOk n (nV (l.take n)).2
  | 0, _ => by rw [List.take_zero]; exact ⟨d0_ok, d0_ok⟩
  | n + 1, hn => by
    have ih := nV_ok h n (by omega)
    obtain ⟨x, hx⟩ : ∃ x, l[n]? = some x := ⟨_, List.getElem?_eq_getElem (by omega)⟩
    have hm := mv_small (h x (List.mem_of_getElem? hx))
    have : nV (l.take (n + 1)) = nStep (nV (l.take n)) x := by
      unfold nV
      rw [List.take_add_one, hx, List.foldl_append]; rfl
    rw [this]
    exact ⟨dStep_ok ih.1 hm.1 hm.2.1, dStep_ok ih.2 hm.2.2.1 hm.2.2.2⟩
theorem nV_step {l : List SnV} {n : Nat} {x : SnV} (hx : l[n]? = some x) : nV (l.take (n + 1)) = nStep (nV (l.take n)) x := by
  unfold nV
  rw [List.take_add_one, hx, List.foldl_append]; rfl
theorem fold_mono (r : List SnV) : ∀ P : Dp × Dp, P.1.needs ≤ (r.foldl nStep P).1.needs ∧ P.1.grow ≤ (r.foldl nStep P).1.grow ∧ P.2.needs ≤ (r.foldl nStep P).2.needs ∧ P.2.grow ≤ (r.foldl nStep P).2.grow := by
  induction r with
  | nil => intro P; exact ⟨Int.le_refl _, Int.le_refl _, Int.le_refl _, Int.le_refl _⟩
  | cons x r ih =>
    intro P
    obtain ⟨a, b, c, d⟩ := ih (nStep P x)
    have m1 := (le_imax P.1.needs ((mT x : Int) - P.1.now)).1
    have m2 := (le_imax P.1.grow (P.1.now + ((mG x : Int) - mT x))).1
    have m3 := (le_imax P.2.needs ((mTB x : Int) - P.2.now)).1
    have m4 := (le_imax P.2.grow (P.2.now + ((mGB x : Int) - mTB x))).1
    exact ⟨Int.le_trans m1 a, Int.le_trans m2 b, Int.le_trans m3 c, Int.le_trans m4 d⟩
/-- What is needed at a step, is needed in all. -/
theorem nV_at {l : List SnV} {n : Nat} {x : SnV} (hx : l[n]? = some x) : ((mT x : Int) - (nV (l.take n)).1.now ≤ (nV l).1.needs) ∧ ((nV (l.take (n + 1))).1.now ≤ (nV l).1.grow) ∧ ((mTB x : Int) - (nV (l.take n)).2.now ≤ (nV l).2.needs) ∧ ((nV (l.take (n + 1))).2.now ≤ (nV l).2.grow) := by
  have e : nV l = (l.drop (n + 1)).foldl nStep (nV (l.take (n + 1))) := by
    unfold nV
    rw [← List.foldl_append, List.take_append_drop]
  obtain ⟨a, b, c, d⟩ := fold_mono (l.drop (n + 1)) (nV (l.take (n + 1)))
  rw [← e] at a b c d
  rw [nV_step hx] at a b c d ⊢
  have m1 := (le_imax (nV (l.take n)).1.needs ((mT x : Int) - (nV (l.take n)).1.now)).2
  have m2 := (le_imax (nV (l.take n)).1.grow ((nV (l.take n)).1.now + ((mG x : Int) - mT x))).2
  have m3 := (le_imax (nV (l.take n)).2.needs ((mTB x : Int) - (nV (l.take n)).2.now)).2
  have m4 := (le_imax (nV (l.take n)).2.grow ((nV (l.take n)).2.now + ((mGB x : Int) - mTB x))).2
  exact ⟨Int.le_trans m1 a, Int.le_trans m2 b, Int.le_trans m3 c, Int.le_trans m4 d⟩
theorem rightL_all {start : Int} : ∀ {l : List SnV} {a : Int} {m : Bool} {e : Int}, rightL start a m l = some e → ∀ x ∈ l, singleB x = true
  | [], _, _, _, _ => fun _ h => by cases h
  | y :: r, a, m, e, h => by
    unfold rightL at h
    split at h
    · cases h
    · next hn =>
      intro x hx
      rcases List.mem_cons.1 hx with hx | hx
      · rw [hx]
        cases hy : singleB y with
        | true => rfl
        | false => exact absurd (Or.inl hy) hn
      · exact rightL_all h x hx
theorem rightR_of {r : RcV} (h : rightR r = true) : r.steps.length ≤ 120 ∧ rightL r.start r.start false r.steps = some r.fin ∧ (∀ x ∈ r.steps, singleB x = true) := by
  unfold rightR at h
  split at h
  · cases h
  · split at h
    · cases h
    · cases hl : rightL r.start r.start false r.steps with
      | none => rw [hl] at h; cases h
      | some a =>
        rw [hl] at h
        have : a = r.fin := of_decide_eq_true h
        subst this
        exact ⟨by omega, rfl, rightL_all hl⟩
/-- Where it begins and ends, if there is a step. -/
theorem rightL_ends {start : Int} : ∀ {l : List SnV} {a : Int} {m : Bool} {e : Int}, rightL start a m l = some e → l ≠ [] → (0 ≤ a ∧ a < 3000) ∧ (0 ≤ e ∧ e < 3000)
  | [], _, _, _, _ => fun h => absurd rfl h
  | y :: r, a, m, e, h => by
    intro _
    unfold rightL at h
    split at h
    · cases h
    · next hn =>
      have hy : singleB y = true := by
        cases hy : singleB y with
        | true => rfl
        | false => exact absurd (Or.inl hy) hn
      obtain ⟨_, p1, p2⟩ := sing_of hy
      have ha : y.ip = a := Classical.byContradiction fun hh => hn (Or.inr (Or.inl hh))
      rw [ha] at p1
      refine ⟨p1, ?_⟩
      cases r with
      | nil => injection h with h; rw [← h]; exact p2
      | cons z q => exact (rightL_ends h (fun h => by cases h)).2
end Go.Proofs.Ytkjpmkopnkkbmaa

/- The package build: what a recording needs, counted twice. -/
set_option maxRecDepth 100000
namespace Go.Proofs.Ytkjpmkopnkkbmaa
open Go.RowKit

def dpC (D : Dp) : List Value := [.int .i64 D.now, .int .i64 D.needs, .int .i64 D.grow]
theorem dstep_any {w : World} {b : Nat} {D : Dp} {n : Nat} (o : Ob w b (dpC D) T_build_depth) (hD : DOk n D) (hn : n ≤ 1000) {t g : Nat} (ht : t ≤ 4) (hg : g ≤ 4) {t' g' : Int} (et : t' = t) (eg : g' = g) : Calls Try.prog fn_build_depth_step #[.pointer (some ⟨b, 0, none⟩), .int .i64 t', .int .i64 g'] w fun e w' => e = .returned (.tuple #[]) ∧ Ob w' b (dpC (dStep D t g)) T_build_depth ∧ Chg (fun k => k = b) w w' := by
  subst et eg
  refine (build_depth_step_lift (K := fun r w' => r = .tuple #[] ∧ Ob w' b (dpC (dStep D t g)) T_build_depth ∧ Chg (fun k => k = b) w w') ?_).mono (by rintro e w' ⟨r, rfl, rfl, h⟩; exact ⟨rfl, h⟩)
  unfold build_depth_step_sh
  have o1 := hD.now; have o2 := hD.needs; have o3 := hD.grow
  intro w4 hw4
  have c4 := dw hw4
  have q4 := o.no c4
  refine ⟨D.needs, fun w' hw' => by rw [hw']; exact q4.cell rfl, D.now, fun w' hw' => by rw [hw']; exact q4.cell rfl, q4.wr (by simp [dpC]), fun w7 hw7 => ?_⟩
  rw [wr_in (x := (t : Int) - D.now) (by omega)] at hw7
  obtain ⟨q7, c7⟩ := q4.up (k := 1) (vs := [.int .i64 (imax D.needs ((t : Int) - D.now))]) (cs' := dpC ⟨D.now, imax D.needs ((t : Int) - D.now), D.grow⟩) (by simp [dpC]) rfl hw7
  refine ⟨D.now, q7.cell rfl, q7.wr (by simp [dpC]), fun w9 hw9 => ?_⟩
  rw [wr_in (x := (g : Int) - t) (by omega), wr_in (x := D.now + ((g : Int) - t)) (by omega)] at hw9
  obtain ⟨q9, c9⟩ := q7.up (k := 0) (vs := [.int .i64 (D.now + ((g : Int) - t))]) (cs' := dpC ⟨D.now + ((g : Int) - t), imax D.needs ((t : Int) - D.now), D.grow⟩) (by simp [dpC]) rfl hw9
  intro w10 hw10
  have c10 := dw hw10
  have q10 := q9.no c10
  refine ⟨D.grow, fun w' hw' => by rw [hw']; exact q10.cell rfl, D.now + ((g : Int) - t), fun w' hw' => by rw [hw']; exact q10.cell rfl, q10.wr (by simp [dpC]), fun w13 hw13 => ?_⟩
  obtain ⟨q13, c13⟩ := q10.up (k := 2) (vs := [.int .i64 (imax D.grow (D.now + ((g : Int) - t)))]) (cs' := dpC (dStep D t g)) (by simp [dpC]) rfl hw13
  refine ⟨rfl, q13, ?_⟩
  have k : ∀ k : Nat, k < w.heap.size → k = b → k = b := fun _ _ h => h
  exact (((c4.trans c7 (fun _ _ h => h.elim) (fun _ _ h => h)).trans c9 (fun _ _ h => h) (fun _ _ h => h)).trans c10 (fun _ _ h => h) (fun _ _ h => h.elim)).trans c13 (fun _ _ h => h) (fun _ _ h => h)
def needsT (P : Dp × Dp) : Value := .tuple #[.int .i64 P.1.needs, .int .i64 P.1.grow, .int .i64 P.2.needs, .int .i64 P.2.grow]
theorem bneeds_any {w : World} (R : RcC) {r : RcV} (hnum : R.start = r.start ∧ R.fin = r.fin ∧ R.loop = r.loop) (hst : Rd seE w R.steps r.steps) (hin : ∀ x ∈ r.steps, Cn.In x.ip) : Calls Try.prog fn_build_Needs #[.agg (rcC R).toArray] w fun e w' => e = .returned (if rightR r = true then needsT (nV r.steps) else .tuple #[.int .i64 0, .int .i64 0, .int .i64 0, .int .i64 0]) ∧ Chg No w w' := by
  refine (build_Needs_lift (K := fun rv w' => rv = (if rightR r = true then needsT (nV r.steps) else .tuple #[.int .i64 0, .int .i64 0, .int .i64 0, .int .i64 0]) ∧ Chg No w w') ?_).mono (by rintro e w' ⟨rv, rfl, rfl, h⟩; exact ⟨rfl, h⟩)
  unfold build_Needs_sh
  refine inRc R fun b5 w6 hb5 z6 o6 c6 => ?_
  refine rdRc o6 ((right_rc R hnum (hst.no c6) hin (D := fun _ => True)).mono ?_)
  rintro _ w12 ⟨rfl, c12⟩
  have k12 := trN c6 c12
  refine ⟨_, rfl, brB_of (fun h => ?_) (fun h => ?_)⟩
  · have h : rightR r = false := by simpa using h
    rw [h]; exact ⟨rfl, k12⟩
  have h : rightR r = true := by simpa using h
  rw [h, if_pos rfl]
  obtain ⟨h120, hrl, hall⟩ := rightR_of h
  intro b14 w15 hb14 hw15 b16 w17 hb16 hw17
  have c15 := al hw15
  have c17 := al hw17
  have o14 : Ob w17 b14 (dpC d0) T_build_depth := by
    have : Ob w15 b14 (dpC d0) T_build_depth := by rw [hw15, hb14]; exact Ob.new w12 (dpC d0) T_build_depth
    exact this.no c17
  have o16 : Ob w17 b16 (dpC d0) T_build_depth := by rw [hw17, hb16]; exact Ob.new w15 (dpC d0) T_build_depth
  have k17 := trN (trN k12 c15) c17
  have z14 := o14.lt
  have z12 := c12.size
  have z15 : w15.heap.size = w12.heap.size + 1 := by rw [hw15]; simp
  have z17 : w17.heap.size = w15.heap.size + 1 := by rw [hw17]; simp
  have zw := k12.size
  have hst17 := hst.no k17
  have hl := hst.len
  refine ⟨R.steps, ((((o6.no c12).no c15).no c17)).cell rfl, ?_⟩
  refine ⟨fun n w' => ∃ j : Nat, n = j ∧ j ≤ r.steps.length ∧ Ob w' b14 (dpC (nV (r.steps.take j)).1) T_build_depth ∧ Ob w' b16 (dpC (nV (r.steps.take j)).2) T_build_depth ∧ Chg (fun k => k = b14 ∨ k = b16) w17 w', fun n _ => r.steps.length - n.toNat, ⟨0, rfl, Nat.zero_le _, by rw [List.take_zero]; exact o14, by rw [List.take_zero]; exact o16, Chg.refl _ _⟩, ?_⟩
  rintro n w19 ⟨j, rfl, hj, q14, q16, k19⟩
  have lo : ∀ k : Nat, k < w.heap.size → ¬ (k = b14 ∨ k = b16) := fun k hk he => by omega
  have kk : Chg No w w19 := k17.trans k19 (fun _ _ h => h) (fun k hk he => absurd he (lo k hk))
  refine brB_of (fun hlt => ?_) (fun hge => ?_)
  · have hlt : j < r.steps.length := by have := of_decide_eq_true hlt; omega
    obtain ⟨x, hx⟩ : ∃ x, r.steps[j]? = some x := ⟨_, List.getElem?_eq_getElem hlt⟩
    have hsx := hall x (List.mem_of_getElem? hx)
    obtain ⟨s1, s2, s3, s4⟩ := mv_small hsx
    obtain ⟨D1, D2⟩ := nV_ok hall j hj
    refine ⟨fun w61 => Ob w61 b14 (dpC (nV (r.steps.take (j + 1))).1) T_build_depth ∧ Ob w61 b16 (dpC (nV (r.steps.take (j + 1))).2) T_build_depth ∧ Chg (fun k => k = b14 ∨ k = b16) w17 w61, ?_, ?_⟩
    · rintro w61 ⟨p1, p2, p3⟩
      rw [wr_in (by omega)]
      exact ⟨⟨j + 1, by omega, by omega, p1, p2, p3⟩, by show r.steps.length - Int.toNat ((j : Int) + 1) < r.steps.length - Int.toNat (j : Int); omega⟩
    refine (hst.no kk).ix (i := (j : Int)) (by omega) (by rw [Int.toNat_natCast]; exact hx) fun ad _ hcell => ?_
    have q0 := hcell 0 _ rfl
    rw [add0] at q0
    refine ⟨x.ip, x.cell, x.arg, x.next, q0, hcell 1 _ rfl, hcell 2 _ rfl, hcell 3 _ rfl, varSn x fun b26 w28 hb26 z28 o26 c28 => ?_⟩
    have zq := q16.lt
    have zp := q14.lt
    refine rdSn o26 ((end_called x w28).mono ?_)
    rintro _ w34 ⟨rfl, c34⟩
    have q14' := (q14.no c28).no c34
    have q16' := (q16.no c28).no c34
    have n1 : ¬ b14 = b16 := by omega
    have k34 : Chg (fun k => k = b14 ∨ k = b16) w17 w34 := (k19.trans c28 (fun _ _ h => h) (fun _ _ h => h.elim)).trans c34 (fun _ _ h => h) (fun _ _ h => h.elim)
    rw [nV_step hx]
    refine ⟨_, rfl, brB_of (fun h64 => ?_) (fun h64 => ?_)⟩
    · have h64 : 64 ≤ x.cell := of_decide_eq_true h64
      have e1 : mT x = 0 := if_pos h64
      have e2 : mG x = 0 := if_pos h64
      have e3 : mTB x = 0 := if_pos h64
      have e4 : mGB x = 1 := if_pos h64
      refine (dstep_any q16' D2 (by omega) (t := 0) (g := 1) (by omega) (by omega) rfl rfl).mono ?_
      rintro _ w37 ⟨rfl, p16, c37⟩
      refine ⟨rfl, ?_, ?_, k34.trans c37 (fun _ _ h => h) (fun _ _ h => Or.inr h)⟩
      · unfold nStep
        rw [e1, e2]
        show Ob w37 b14 (dpC (dStep _ 0 0)) _
        rw [dStep_00 D1]; exact q14'.chg c37 n1
      · unfold nStep
        rw [e3, e4]; exact p16
    · have h64 : ¬ 64 ≤ x.cell := of_decide_eq_false h64
      obtain ⟨i1, i2, i3, i4⟩ := mv_int hsx h64
      have o34 := o26.no c34
      have zo := o34.lt
      refine ⟨x.cell, o34.cell rfl, (takes_any x.cell w34).mono ?_⟩
      rintro _ w40 ⟨rfl, c40⟩
      refine ⟨_, _, rfl, x.cell, (o34.no c40).cell rfl, (gives_any x.cell w40).mono ?_⟩
      rintro _ w45 ⟨rfl, c45⟩
      refine ⟨_, _, rfl, ?_⟩
      have c3445 := trN c40 c45
      have o45 := o34.no c3445
      refine ⟨fun gb w55 => gb = mGB x ∧ Chg No w34 w55, ?_, ?_⟩
      · rintro gb w55 ⟨rfl, c55⟩
        rw [i1, i2, i3]
        refine (dstep_any (q14'.no c55) D1 (by omega) s1 s2 rfl rfl).mono ?_
        rintro _ w57 ⟨rfl, p14, c57⟩
        refine ⟨rfl, ?_⟩
        refine (dstep_any ((q16'.no c55).chg c57 (fun h => n1 h.symm)) D2 (by omega) s3 s4 rfl rfl).mono ?_
        rintro _ w60 ⟨rfl, p16, c60⟩
        exact ⟨rfl, p14.chg c60 n1, p16, ((k34.trans c55 (fun _ _ h => h) (fun _ _ h => h.elim)).trans c57 (fun _ _ h => h) (fun _ _ h => Or.inl h)).trans c60 (fun _ _ h => h) (fun _ _ h => Or.inr h)⟩
      · refine rdSn o45 ((end_ends x w45).mono ?_)
        rintro _ w53 ⟨rfl, c53⟩
        refine ⟨_, rfl, brB_of (fun he => ⟨?_, trN c3445 c53⟩) (fun he => ⟨?_, trN c3445 c53⟩)⟩
        · rw [← i4, if_pos he]
        · rw [← i4, if_neg (by rw [he]; decide)]
  · have hge : j = r.steps.length := by have := of_decide_eq_false hge; omega
    subst hge
    rw [List.take_length] at q14 q16
    intro w62 hw62
    have c62 := dw hw62
    have p14 := q14.no c62
    have p16 := q16.no c62
    refine ⟨_, fun w' hw' => by rw [hw']; exact p14.cell rfl, _, fun w' hw' => by rw [hw']; exact p14.cell rfl, _, fun w' hw' => by rw [hw']; exact p16.cell rfl, _, fun w' hw' => by rw [hw']; exact p16.cell rfl, rfl, trN kk c62⟩
end Go.Proofs.Ytkjpmkopnkkbmaa

/- What a recording needs, as the document counts. -/
set_option maxRecDepth 100000
namespace Go.Proofs.Ytkjpmkopnkkbmaa
open Go.RowKit

theorem rneeds_any {w : World} (R : RcC) {r : RcV} (hr : rightR r = true) (hst : Rd seE w R.steps r.steps) : Calls Try.prog fn_hollowayref9_Needs #[.agg (rcC R).toArray] w fun e w' => e = .returned (needsT (nV r.steps)) ∧ Chg No w w' := by
  refine (hollowayref9_Needs_lift (K := fun rv w' => rv = needsT (nV r.steps) ∧ Chg No w w') ?_).mono (by rintro e w' ⟨rv, rfl, rfl, h⟩; exact ⟨rfl, h⟩)
  unfold hollowayref9_Needs_sh
  obtain ⟨h120, hrl, hall⟩ := rightR_of hr
  have hl := hst.len
  refine inRc R fun b5 w6 hb5 z6 o6 c6 => ?_
  refine ⟨fun a1 a2 a3 a4 a5 a6 n w' => ∃ j : Nat, n = j ∧ j ≤ r.steps.length ∧ a1 = (nV (r.steps.take j)).1.needs ∧ a2 = (nV (r.steps.take j)).2.needs ∧ a3 = (nV (r.steps.take j)).1.grow ∧ a4 = (nV (r.steps.take j)).2.grow ∧ a5 = (nV (r.steps.take j)).1.now ∧ a6 = (nV (r.steps.take j)).2.now ∧ Chg No w6 w', fun _ _ _ _ _ _ n _ => r.steps.length - n.toNat, ⟨0, rfl, Nat.zero_le _, rfl, rfl, rfl, rfl, rfl, rfl, Chg.refl _ _⟩, ?_⟩
  rintro _ _ _ _ _ _ n w7 ⟨j, rfl, hj, rfl, rfl, rfl, rfl, rfl, rfl, c7⟩
  have kk := trN c6 c7
  refine ⟨R.steps, (o6.no c7).cell rfl, brB_of (fun hlt => ?_) (fun hge => ?_)⟩
  · have hlt : j < r.steps.length := by have := of_decide_eq_true hlt; omega
    obtain ⟨x, hx⟩ : ∃ x, r.steps[j]? = some x := ⟨_, List.getElem?_eq_getElem hlt⟩
    have hsx := hall x (List.mem_of_getElem? hx)
    obtain ⟨s1, s2, s3, s4⟩ := mv_small hsx
    obtain ⟨D1, D2⟩ := nV_ok hall j hj
    obtain ⟨P, hP⟩ : ∃ P, nV (r.steps.take j) = P := ⟨_, rfl⟩
    rw [hP] at D1 D2 ⊢
    have q1 := D1.now; have q2 := D2.now
    refine ⟨R.steps, (o6.no c7).cell rfl, ?_⟩
    refine (hst.no kk).ix (i := (j : Int)) (by omega) (by rw [Int.toNat_natCast]; exact hx) fun ad _ hcell => ?_
    have q0 := hcell 0 _ rfl
    rw [add0] at q0
    refine ⟨x.ip, x.cell, x.arg, x.next, q0, hcell 1 _ rfl, hcell 2 _ rfl, hcell 3 _ rfl, varSn x fun b16 w18 hb16 z18 o18 c18 => ?_⟩
    refine ⟨x.cell, o18.cell rfl, (moves_any x.cell w18).mono ?_⟩
    rintro _ _ ⟨rfl, rfl⟩
    refine ⟨_, _, _, _, rfl, fun a bb c d w27 => w18 = w27 ∧ a = mT x ∧ bb = mTB x ∧ c = mG x ∧ (if endsB x = true then 0 else d) = mGB x, ?_, x.cell, o18.cell rfl, brB_of (fun h64 => ?_) (fun h64 => ?_)⟩
    · rintro _ _ _ d _ ⟨rfl, rfl, rfl, rfl, hd⟩
      refine ⟨fun d' w42 => d' = mGB x ∧ w18 = w42, ?_, fun b41 w40 => b41 = endsB x ∧ w18 = w40, ?_, x.cell, o18.cell rfl, brB_of (fun h37 => ⟨x.next, o18.cell rfl, x.arg, o18.cell rfl, ?_, rfl⟩) (fun h37 => ⟨x.cell, o18.cell rfl, brB_of (fun h38 => ⟨x.next, o18.cell rfl, x.arg, o18.cell rfl, ?_, rfl⟩) (fun h38 => ⟨?_, rfl⟩)⟩)⟩
      · rintro _ _ ⟨rfl, rfl⟩
        rw [wr_in (x := (mT x : Int) - P.1.now) (by omega), wr_in (x := (mTB x : Int) - P.2.now) (by omega), wr_in (x := P.1.now - (mT x : Int)) (by omega), wr_in (x := P.2.now - (mTB x : Int)) (by omega), wr_in (x := P.1.now - (mT x : Int) + (mG x : Int)) (by omega), wr_in (x := P.2.now - (mTB x : Int) + (mGB x : Int)) (by omega), wr_in (x := (j : Int) + 1) (by omega)]
        refine ⟨⟨j + 1, by omega, by omega, ?_, ?_, ?_, ?_, ?_, ?_, trN c7 c18⟩, by show r.steps.length - Int.toNat ((j : Int) + 1) < r.steps.length - Int.toNat (j : Int); omega⟩
        all_goals rw [nV_step hx, hP]
        · rfl
        · rfl
        · show imax _ _ = imax _ _; congr 1; omega
        · show imax _ _ = imax _ _; congr 1; omega
        · show _ = P.1.now + _; omega
        · show _ = P.2.now + _; omega
      · rintro b41 _ ⟨rfl, rfl⟩
        refine brB_of (fun he => ⟨?_, rfl⟩) (fun he => ⟨?_, rfl⟩)
        · rw [if_pos he] at hd; exact hd
        · rw [if_neg (by rw [he]; decide)] at hd; exact hd
      · have h37 : x.cell = 37 := by simpa using h37
        unfold endsB
        by_cases hn : x.next = x.arg
        · simp [hn]
        · simp [hn, h37]
      · have h38 : x.cell = 38 := by simpa using h38
        unfold endsB
        by_cases hn : x.next = x.arg
        · simp [hn]
        · simp [hn, h38]
      · have h37 : x.cell ≠ 37 := by simpa using h37
        have h38 : x.cell ≠ 38 := by simpa using h38
        unfold endsB
        simp [h37, h38]
    · have h64 : 64 ≤ x.cell := of_decide_eq_true h64
      refine ⟨rfl, ?_, ?_, ?_, ?_⟩
      · unfold mT; rw [if_pos h64]; rfl
      · unfold mTB; rw [if_pos h64]; rfl
      · unfold mG; rw [if_pos h64]; rfl
      · unfold mGB; rw [if_pos h64]
        have : endsB x = false := by unfold endsB; simp; omega
        rw [this]; rfl
    · have h64 : ¬ 64 ≤ x.cell := of_decide_eq_false h64
      obtain ⟨i1, i2, i3, i4⟩ := mv_int hsx h64
      exact ⟨rfl, i1, i3, i2, i4⟩
  · have hge : j = r.steps.length := by have := of_decide_eq_false hge; omega
    subst hge
    rw [List.take_length]
    exact ⟨rfl, kk⟩
end Go.Proofs.Ytkjpmkopnkkbmaa

/- The package build: the trace that comes out, in plain words; how the builder begins. -/
set_option maxRecDepth 100000
namespace Go.Proofs.Ytkjpmkopnkkbmaa
open Go.RowKit

/-- A recording that a trace is built of. -/
structure FitR (r : RcV) : Prop where
  right : rightR r = true
  some : r.steps ≠ []
  n1 : (nV r.steps).1.needs ≤ 48
  g1 : (nV r.steps).1.grow ≤ 48
  n2 : (nV r.steps).2.needs ≤ 48
  g2 : (nV r.steps).2.grow ≤ 48
theorem nV_now {l : List SnV} (h : ∀ x ∈ l, singleB x = true) {n : Nat} (hn : n ≤ l.length) : (0 ≤ (nV l).1.needs + (nV (l.take n)).1.now ∧ (nV (l.take n)).1.now ≤ (nV l).1.grow) ∧ (0 ≤ (nV l).2.needs + (nV (l.take n)).2.now ∧ (nV (l.take n)).2.now ≤ (nV l).2.grow) := by
  have e : nV l = (l.drop n).foldl nStep (nV (l.take n)) := by
    unfold nV
    rw [← List.foldl_append, List.take_append_drop]
  obtain ⟨a, b, c, d⟩ := fold_mono (l.drop n) (nV (l.take n))
  rw [← e] at a b c d
  obtain ⟨D1, D2⟩ := nV_ok h n hn
  have := D1.lo; have := D1.hi; have := D2.lo; have := D2.hi
  omega
theorem nV_0 {l : List SnV} (h : ∀ x ∈ l, singleB x = true) : 0 ≤ (nV l).1.needs ∧ 0 ≤ (nV l).1.grow ∧ 0 ≤ (nV l).2.needs ∧ 0 ≤ (nV l).2.grow := by
  have := nV_ok h l.length (Nat.le_refl _)
  rw [List.take_length] at this
  exact ⟨this.1.needs.1, this.1.grow.1, this.2.needs.1, this.2.grow.1⟩
theorem plsL_single : ∀ {l : List SnV}, (∀ x ∈ l, singleB x = true) → ∀ y ∈ plsL l, 0 ≤ y ∧ y ≤ 2999
  | [], _, y, hy => by cases hy
  | x :: r, h, y, hy => by
    have hx := h x List.mem_cons_self
    have hy : y ∈ plsX x ++ plsL r := hy
    rcases List.mem_append.1 hy with hy | hy
    · unfold singleB placeB at hx
      simp only [Bool.and_eq_true, Bool.or_eq_true, decide_eq_true_eq] at hx
      obtain ⟨_, _, h1, h2, _⟩ := hx
      unfold plsX at hy
      rcases List.mem_cons.1 hy with hy | hy
      · omega
      · split at hy
        · next ha =>
          rw [if_pos ha] at h2
          rw [List.mem_singleton.1 hy]; omega
        · cases hy
    · exact plsL_single (fun z hz => h z (List.mem_cons_of_mem _ hz)) y hy
theorem cellsV_of {l : List Int} (hp : l.Pairwise (· < ·)) (hi : ∀ y ∈ l, 0 ≤ y ∧ y ≤ 2999) : CellsV l := by
  intro k c hk
  refine ⟨hi c (List.mem_of_getElem? hk), fun j d hj hd => ?_⟩
  obtain ⟨h1, rfl⟩ := List.getElem?_eq_some_iff.1 hk
  obtain ⟨h2, rfl⟩ := List.getElem?_eq_some_iff.1 hd
  exact List.pairwise_iff_getElem.1 hp j k h2 h1 (by omega)
def trOf (h : BH) (v : BV) (o : OuV) : TrG := ⟨h.start, h.slots, h.backs, h.grow, h.growBack, v.ins, v.outs ++ [o], v.outs.length, h.cells⟩
theorem right_of {h : BH} {v : BV} {fin n : Int} (g : Good h v) (hd : HeadV (trOf h v ⟨fin, n, v.stack, v.back⟩)) (ho : ExI h ⟨fin, n, v.stack, v.back⟩) (hn : 1 ≤ n) (hc : CellsV h.cells) : RightV (trOf h v ⟨fin, n, v.stack, v.back⟩) := by
  have g2 := g.addO ho
  have e : outAt (trOf h v ⟨fin, n, v.stack, v.back⟩) (v.outs.length : Int) = ⟨fin, n, v.stack, v.back⟩ := last_ou _ _
  refine ⟨hd, g2.each, fun k o hk => g2.outs o (List.mem_of_getElem? hk), hc, ⟨by show (0 : Int) ≤ (v.outs.length : Int); omega, by show (v.outs.length : Int) < ((v.outs ++ [_]).length : Nat); rw [List.length_append, List.length_singleton]; omega, ?_, ?_⟩, ?_⟩
  · show NamedV _ (outAt (trOf h v ⟨fin, n, v.stack, v.back⟩) (v.outs.length : Int)).stack v.ins.length
    rw [e]; exact g2.st
  · show NamedV _ (outAt (trOf h v ⟨fin, n, v.stack, v.back⟩) (v.outs.length : Int)).back v.ins.length
    rw [e]; exact g2.bk
  · show 1 ≤ (outAt (trOf h v ⟨fin, n, v.stack, v.back⟩) (v.outs.length : Int)).steps
    rw [e]; exact hn
/-- Good, but for the exit. -/
def Gx (h : BH) (v : BV) : Prop := Good h { v with exit := -1 }
theorem Good.x {h : BH} {v : BV} (g : Good h v) : Gx h v := ⟨g.each, g.st, g.bk, g.cs, g.was, fun hx => by have hx : (0 : Int) ≤ -1 := hx; omega, g.outs⟩
def v0 : BV := ⟨[], [], [], [], fun _ => none, se0, ⟨0, 0, [], []⟩, 0⟩
theorem gx0 {h : BH} (h1 : 0 ≤ h.slots ∧ 0 ≤ h.grow ∧ 0 ≤ h.backs ∧ 0 ≤ h.growBack) : Gx h v0 := by
  have hw : ExI h ⟨0, 0, [], []⟩ := ⟨⟨by show (0 : Int) ≤ 0; decide, by show (0 : Int) ≤ 120; decide⟩, ⟨by show (0 : Int) ≤ 0; decide, by show (0 : Int) ≤ 2999; decide⟩, by show ((0 : Nat) : Int) ≤ _; omega, by show ((0 : Nat) : Int) ≤ _; omega⟩
  constructor
  · intro k i hk
    have hk : ([] : List In5)[k]? = some i := hk
    simp at hk
  · exact NmI.nil _ _
  · exact NmI.nil _ _
  · intro n p hp
    have hp : (none : Option Int) = some p := hp
    cases hp
  · exact ⟨NmI.nil _ _, NmI.nil _ _, hw⟩
  · intro hx
    have hx : (0 : Int) ≤ -1 := hx
    omega
  · intro o ho
    have ho : o ∈ ([] : List OuV) := ho
    cases ho
def Em : Nat → Prop := fun _ => False
/-- The builder at first. -/
theorem St.start {w0 w : World} {bb mb : Nat} {h : BH} (ob : Ob w bb (bC h ⟨nilS, nilS, nilS, nilS, mb, ⟨0, 0, nilS, nilS⟩⟩ v0) T_build_builder) (hm : MpIs ekI ekI w mb fun _ => none) (hc : Rd intE w h.cS h.cells) (hcb : ∀ k, h.cS.blk = some k → (w0.heap.size ≤ k ∧ k < w.heap.size) ∧ k ≠ bb ∧ k ≠ mb) (n1 : bb ≠ mb) (l1 : w0.heap.size ≤ bb) (l2 : w0.heap.size ≤ mb) (ch : Chg No w0 w) : St w0 bb h Em w v0 := by
  have ms : ∀ (i k : Nat), (msB bb ⟨nilS, nilS, nilS, nilS, mb, ⟨0, 0, nilS, nilS⟩⟩)[i]? = some (some k) → (i = 0 ∧ k = bb) ∨ (i = 1 ∧ k = mb) := by
    intro i k hi
    have hi : ([some bb, some mb, none, none, none, none] : List (Option Nat))[i]? = some (some k) := hi
    match i, hi with
    | 0, hi => injection hi with hi; injection hi with hi; exact Or.inl ⟨rfl, hi.symm⟩
    | 1, hi => injection hi with hi; injection hi with hi; exact Or.inr ⟨rfl, hi.symm⟩
    | 2, hi => injection hi with hi; cases hi
    | 3, hi => injection hi with hi; cases hi
    | 4, hi => injection hi with hi; cases hi
    | 5, hi => injection hi with hi; cases hi
    | _ + 6, hi => cases hi
  have lb := ob.lt
  have lm := hm.lt
  refine ⟨_, [], fun k => h.cS.blk = some k, ob, Ox.nil _ _, Ox.nil _ _, ⟨rfl, fun i o v ho => by cases ho⟩, Ox.nil _ _, Ox.nil _ _, ⟨rfl, rfl, Rd.nil _ _, Rd.nil _ _, fun k hk => (by cases hk), fun k hk => (by cases hk)⟩, hm, hc, fun k hk => hk, fun i j k hi hj => ?_, fun i k hi => ?_, fun k hk => (hcb k hk).1, fun k hk => hk.elim, fun k _ he => he.elim, ch⟩
  · rcases ms i k hi with ⟨e1, e2⟩ | ⟨e1, e2⟩ <;> rcases ms j k hj with ⟨e3, e4⟩ | ⟨e3, e4⟩ <;> omega
  · rcases ms i k hi with ⟨e1, e2⟩ | ⟨e1, e2⟩
    · subst e2
      exact ⟨l1, lb, fun hk => (hcb _ hk).2.1 rfl, fun h => h⟩
    · subst e2
      exact ⟨l2, lm, fun hk => (hcb _ hk).2.2 rfl, fun h => h⟩
section
variable {w0 w : World} {bb : Nat} {h : BH} {v : BV}
/-- A slot. -/
theorem slot_step (g : St w0 bb h Em w v) (gx : Gx h v) (hl : v.ins.length ≤ 1000 ∧ v.stack.length ≤ 1000) {k : Int} (hk : 0 ≤ k ∧ k ≤ h.slots - 1) {K : World → Prop} (hK : ∀ w' v', St w0 bb h Em w' v' → Gx h v' → v'.ins.length = v.ins.length + 1 → v'.stack.length = v.stack.length + 1 → v'.back = v.back → v'.outs = v.outs → K w') :
    Calls Try.prog fn_build_builder_ins #[.pointer (some ⟨bb, 0, none⟩), .agg #[.int .i64 2, .int .i64 k, .int .i64 0, .int .i64 0, .int .i64 0]] w fun e56 w57 => ∃ n58 : Int, e56 = .returned (.int .i64 n58) ∧
      ∀ (b59 : Nat) (w60 : World), b59 = w57.heap.size → w60 = World.alloc w57 (.cells #[.int .i64 n58] T_int) →
      Calls Try.prog fn_build_builder_push #[.pointer (some ⟨bb, 0, none⟩), .slice (some ⟨b59, 0, none⟩) 1 1] w60 fun e61 w62 => e61 = .returned (.tuple #[]) ∧ K w62 := by
  refine (bins_any g ⟨2, k, 0, 0, 0⟩ (by omega)).mono ?_
  rintro _ w57 ⟨rfl, g57, c57⟩
  refine ⟨_, rfl, fun b59 w60 hb hw => ?_⟩
  have c60 := al hw
  have h60 : Ow intE w60 ⟨some ⟨b59, 0, none⟩, 1, 1⟩ [(v.ins.length : Int)] := by rw [hw, hb]; exact Ow.lit (E := intE) w57 [(v.ins.length : Int)] _ rfl (by show 1 ≤ maxLen; unfold maxLen; omega)
  refine (bpush_any (g57.no c60) (a' := ⟨b59, 0, none⟩) h60.rd rfl (by simp) (by show v.stack.length ≤ _ ∧ 1 ≤ 10; omega)).mono ?_
  rintro _ w62 ⟨rfl, g62, c62⟩
  have a := gx.addI (i := ⟨2, k, 0, 0, 0⟩) ⟨⟨by show (1:Int) ≤ 2; decide, by show (2:Int) ≤ 12; decide⟩, (fun h => by have h : (2:Int) = 4 := h; omega), (fun _ => hk), (fun h => by have h : (2:Int) = 3 := h; omega), NmI.nil _ _, fun x hx => by cases hx⟩
  have np : NmI (v.ins ++ [(⟨2, k, 0, 0, 0⟩ : In5)]) (v.ins ++ [(⟨2, k, 0, 0, 0⟩ : In5)]).length [(v.ins.length : Int)] := fun p hp => by
    rw [List.mem_singleton.1 hp]
    refine ⟨by omega, by rw [List.length_append, List.length_singleton]; omega, ?_⟩
    rw [Int.toNat_natCast, List.getD_eq_getElem?_getD, List.getElem?_append_right (Nat.le_refl _), Nat.sub_self]; rfl
  exact ⟨rfl, hK w62 _ g62 (a.stack (a.st.ap np)) (by show (v.ins ++ [_]).length = _; rw [List.length_append]; rfl) (by show (v.stack ++ [_]).length = _; rw [List.length_append]; rfl) rfl rfl⟩
theorem backs_step (g : St w0 bb h Em w v) (gx : Gx h v) (hl : v.ins.length ≤ 1000 ∧ v.back.length ≤ 1000) {k : Int} (hk : 0 ≤ k ∧ k ≤ h.backs - 1) {K : World → Prop} (hK : ∀ w' v', St w0 bb h Em w' v' → Gx h v' → v'.ins.length = v.ins.length + 1 → v'.back.length = v.back.length + 1 → v'.stack = v.stack → v'.outs = v.outs → K w') :
    Calls Try.prog fn_build_builder_ins #[.pointer (some ⟨bb, 0, none⟩), .agg #[.int .i64 3, .int .i64 k, .int .i64 0, .int .i64 0, .int .i64 0]] w fun e56 w57 => ∃ n58 : Int, e56 = .returned (.int .i64 n58) ∧
      ∀ (b59 : Nat) (w60 : World), b59 = w57.heap.size → w60 = World.alloc w57 (.cells #[.int .i64 n58] T_int) →
      Calls Try.prog fn_build_builder_lay #[.pointer (some ⟨bb, 0, none⟩), .slice (some ⟨b59, 0, none⟩) 1 1] w60 fun e61 w62 => e61 = .returned (.tuple #[]) ∧ K w62 := by
  refine (bins_any g ⟨3, k, 0, 0, 0⟩ (by omega)).mono ?_
  rintro _ w57 ⟨rfl, g57, c57⟩
  refine ⟨_, rfl, fun b59 w60 hb hw => ?_⟩
  have c60 := al hw
  have h60 : Ow intE w60 ⟨some ⟨b59, 0, none⟩, 1, 1⟩ [(v.ins.length : Int)] := by rw [hw, hb]; exact Ow.lit (E := intE) w57 [(v.ins.length : Int)] _ rfl (by show 1 ≤ maxLen; unfold maxLen; omega)
  refine (blay_any (g57.no c60) (a' := ⟨b59, 0, none⟩) h60.rd rfl (by simp) (by show v.back.length ≤ _ ∧ 1 ≤ 10; omega)).mono ?_
  rintro _ w62 ⟨rfl, g62, c62⟩
  have a := gx.addI (i := ⟨3, k, 0, 0, 0⟩) ⟨⟨by show (1:Int) ≤ 3; decide, by show (3:Int) ≤ 12; decide⟩, (fun h => by have h : (3:Int) = 4 := h; omega), (fun h => by have h : (3:Int) = 2 := h; omega), (fun _ => hk), NmI.nil _ _, fun x hx => by cases hx⟩
  have np : NmI (v.ins ++ [(⟨3, k, 0, 0, 0⟩ : In5)]) (v.ins ++ [(⟨3, k, 0, 0, 0⟩ : In5)]).length [(v.ins.length : Int)] := fun p hp => by
    rw [List.mem_singleton.1 hp]
    refine ⟨by omega, by rw [List.length_append, List.length_singleton]; omega, ?_⟩
    rw [Int.toNat_natCast, List.getD_eq_getElem?_getD, List.getElem?_append_right (Nat.le_refl _), Nat.sub_self]; rfl
  exact ⟨rfl, hK w62 _ g62 (a.back (a.bk.ap np)) (by show (v.ins ++ [_]).length = _; rw [List.length_append]; rfl) (by show (v.back ++ [_]).length = _; rw [List.length_append]; rfl) rfl rfl⟩
end
end Go.Proofs.Ytkjpmkopnkkbmaa

/- The package build: a step is begun. -/
set_option maxRecDepth 100000
namespace Go.Proofs.Ytkjpmkopnkkbmaa
open Go.RowKit

theorem BS.newWas {w0 w w' : World} {bb : Nat} {h : BH} {C : BC} {os : List OuC} {v : BV} {X X' E : Nat → Prop} (g : BS w0 w bb h C os v X E) {o : OuC} {ov : OuV} (c : Chg (fun k => k = bb) w w') (ho : Ob w' bb (bC h { C with was := o } { v with was := ov }) T_build_builder) (hw : OuIs X' w' o ov) (hX : ∀ k, X k → X' k) (hX' : ∀ k, X' k → (w0.heap.size ≤ k ∧ k < w.heap.size) ∧ (∀ i : Nat, (msB bb C)[i]? ≠ some (some k)) ∧ ¬ E k) :
    BS w0 w' bb h { C with was := o } os { v with was := ov } X' E := by
  have z := c.size
  have ne : ∀ {j k : Nat}, (msB bb C)[j]? = some (some k) → j ≠ 0 → ¬ k = bb := fun hk h2 he => h2 (g.dis _ 0 _ hk (by rw [he]; rfl))
  have nx : ∀ {k : Nat}, X k → ¬ k = bb := fun hk he => (g.own 0 _ rfl).2.2.1 (he ▸ hk)
  have nb := g.own 0 bb rfl
  exact ⟨ho, g.ins.chg c (fun k hk => ne (j := 2) (show (msB bb C)[2]? = some (some k) by rw [← hk]; rfl) (by decide)), g.outs.chg c (fun k hk => ne (j := 3) (show (msB bb C)[3]? = some (some k) by rw [← hk]; rfl) (by decide)), (g.ous.chg c (fun k hk => nx hk)).mono hX, g.st.chg c (fun k hk => ne (j := 4) (show (msB bb C)[4]? = some (some k) by rw [← hk]; rfl) (by decide)), g.bk.chg c (fun k hk => ne (j := 5) (show (msB bb C)[5]? = some (some k) by rw [← hk]; rfl) (by decide)), hw, g.mp.chg c (ne (j := 1) rfl (by decide)), g.cel.chg c (fun k hk => nx (g.celX k hk)), fun k hk => hX k (g.celX k hk), g.dis, fun i k hk => by
    have := g.own i k hk
    exact ⟨this.1, by omega, fun hx => (hX' k hx).2.1 i hk, this.2.2.2⟩, fun k hk => by have := (hX' k hk).1; omega, fun k hk => by have := g.el k hk; omega, fun k hk => (hX' k hk).2.2, g.ch.trans c (fun _ _ h => h) (fun k hk he => by subst he; omega)⟩
theorem turn_any {w0 w w91 : World} {bb : Nat} {h : BH} {v : BV} {E : Nat → Prop} (g : St w0 bb h E w v) (x : SnV) {o : OuC} {ov : OuV} (c91 : Chg No w w91) (ho : OuIs (fun k => w.heap.size ≤ k ∧ k < w91.heap.size) w91 o ov) {S : World → Prop} (hS : ∀ w', Chg (fun k => k = bb) w91 w' → S w') {G : World → Prop} (k : ∀ w98, St w0 bb h E w98 { v with step := x, exit := -1, was := ov } → G w98) :
    S w91 ∧ wrOk w91 ⟨bb, 12, none⟩ 4 ∧ ∀ w96 : World, w96 = stW w91 ⟨bb, 12, none⟩ 0 [.int .i64 x.ip, .int .i64 x.cell, .int .i64 x.arg, .int .i64 x.next] →
      S w96 ∧ wrOk w96 ⟨bb, 20, none⟩ 1 ∧ ∀ w97 : World, w97 = stW w96 ⟨bb, 20, none⟩ 0 [.int .i64 (-1 : Int)] →
      S w97 ∧ wrOk w97 ⟨bb, 16, none⟩ 4 ∧ ∀ w98 : World, w98 = stW w97 ⟨bb, 16, none⟩ 0 [.int .i64 o.ip, .int .i64 o.steps, o.stack.val, o.back.val] → G w98 := by
  obtain ⟨C, os, X, g⟩ := g
  have g91 := g.no c91
  refine ⟨hS _ (Chg.refl _ _), g91.ob.wr (by simp [bC]), fun w96 hw96 => ?_⟩
  obtain ⟨ob96, c96⟩ := g91.ob.up (k := 12) (vs := seC x) (cs' := bC h C { v with step := x }) (by simp [bC, seC]) rfl hw96
  have g96 := (g91.newN c96 ob96 ⟨rfl, rfl, rfl, rfl, rfl, rfl⟩ ⟨rfl, rfl⟩).1
  refine ⟨hS _ c96, g96.ob.wr (by simp [bC]), fun w97 hw97 => ?_⟩
  obtain ⟨ob97, c97⟩ := g96.ob.up (k := 20) (vs := [.int .i64 (-1)]) (cs' := bC h C { v with step := x, exit := -1 }) (by simp [bC]) rfl hw97
  have g97 := (g96.newN c97 ob97 ⟨rfl, rfl, rfl, rfl, rfl, rfl⟩ ⟨rfl, rfl⟩).1
  have k97 : Chg (fun k => k = bb) w91 w97 := c96.trans c97 (fun _ _ h => h) (fun _ _ h => h)
  refine ⟨hS _ k97, g97.ob.wr (by simp [bC]), fun w98 hw98 => ?_⟩
  obtain ⟨ob98, c98⟩ := g97.ob.up (k := 16) (vs := ouC o) (cs' := bC h { C with was := o } { v with step := x, exit := -1, was := ov }) (by simp [bC, ouC]) rfl hw98
  have k98 : Chg (fun k => k = bb) w91 w98 := k97.trans c98 (fun _ _ h => h) (fun _ _ h => h)
  have z97 := k97.size
  have hb := (g.own 0 bb rfl).2.1
  have nF : ∀ k, (w.heap.size ≤ k ∧ k < w91.heap.size) → ¬ k = bb := fun k hk he => by omega
  have hw : OuIs (fun k => X k ∨ (w.heap.size ≤ k ∧ k < w91.heap.size)) w98 o ov := ⟨ho.1, ho.2.1, ho.2.2.1.chg k98 (fun k hk => nF k (ho.2.2.2.2.1 k hk)), ho.2.2.2.1.chg k98 (fun k hk => nF k (ho.2.2.2.2.2 k hk)), fun k hk => Or.inr (ho.2.2.2.2.1 k hk), fun k hk => Or.inr (ho.2.2.2.2.2 k hk)⟩
  refine k w98 ⟨_, _, _, g97.newWas c98 ob98 hw (fun k hk => Or.inl hk) fun k hk => ?_⟩
  rcases hk with hk | hk
  · exact ⟨g97.xl k hk, fun i hi => (g97.own i k hi).2.2.1 hk, g97.xe k hk⟩
  · have z0 := g.ch.size
    exact ⟨by omega, fun i hi => by have := (g.own i k hi).2.1; omega, fun he => by have := g.el k he; omega⟩
/-- From a step begun, as a run. -/
theorem Run.of {w0 w : World} {bb : Nat} {h : BH} {v : BV} {x : SnV} {ov : OuV} (g : St w0 bb h Em w { v with step := x, exit := -1, was := ov }) (gx : Gx h v) (how : ExI h ov) (hn : NmI v.ins v.ins.length ov.stack ∧ NmI v.ins v.ins.length ov.back) : Run w0 w bb h x Em Em w v.stack v.back [] [] v.ins.length (v.outs.length + 1) :=
  ⟨_, g, ⟨⟨gx.each, gx.st, gx.bk, gx.cs, ⟨hn.1, hn.2, how⟩, fun hx => by have hx : (0 : Int) ≤ -1 := hx; omega, gx.outs⟩, rfl, rfl, rfl, NmI.nil _ _, (fun y hy => by cases hy), Nat.le_refl _, by unfold ocB; show v.outs.length + (if (-1 : Int) < 0 then 1 else 0) ≤ _; rw [if_pos (by decide)]; exact Nat.le_refl _⟩, Chg.refl _ _, fun _ h => h⟩
end Go.Proofs.Ytkjpmkopnkkbmaa

/- The package build: Trace. -/
set_option maxRecDepth 100000
namespace Go.Proofs.Ytkjpmkopnkkbmaa
open Go.RowKit

def tr0 : TrP := ⟨0, 0, 0, 0, 0, nilS, nilS, 0, nilS⟩
structure HdT (t : TrG) (r : RcV) : Prop where
  start : t.start = r.start
  nums : t.slots = (nV r.steps).1.needs ∧ t.grow = (nV r.steps).1.grow ∧ t.backs = (nV r.steps).2.needs ∧ t.growBack = (nV r.steps).2.grow
  cells : t.cells = onceI (plsL r.steps)
  last : (outAt t t.last).steps = r.steps.length ∧ (outAt t t.last).ip = r.fin
def TrR (w w' : World) (r : RcV) (rv : Value) : Prop := ∃ (t : TrP) (ok : Bool), rv = .tuple #[.agg (trP t).toArray, .bool ok] ∧ Chg No w w' ∧ (ok = false → t = tr0 ∧ ¬ FitR r) ∧ (ok = true → FitR r ∧ ∃ v : TrG, TrIs (fun _ => True) w' t v ∧ RightV v ∧ HdT v r)
set_option maxHeartbeats 1000000 in
theorem trace_any {w : World} (R : RcC) {r : RcV} (hnum : R.start = r.start ∧ R.fin = r.fin ∧ R.loop = r.loop) (hst : Rd seE w R.steps r.steps) (hin : ∀ x ∈ r.steps, Cn.In x.ip) :
    Calls Try.prog fn_build_Trace #[.agg (rcC R).toArray] w fun e w' => ∃ rv, e = .returned rv ∧ TrR w w' r rv := by
  refine (build_Trace_lift (K := fun rv w' => TrR w w' r rv) ?_).mono (fun e w' h => h)
  unfold build_Trace_sh
  have hl := hst.len
  refine inRc R fun b5 w6 hb5 z6 o6 c6 b7 w8 hb7 hw8 => ?_
  have c8 := al hw8
  have o7 : Ob w8 b7 (trP tr0) T_api_Trace := by rw [hw8, hb7]; exact Ob.new w6 (trP tr0) T_api_Trace
  have o5 := o6.no c8
  have k8 := trN c6 c8
  have z7 := o7.lt
  have z5 := o6.lt
  obtain ⟨m1, m2, m3⟩ := hnum
  refine rdRc o5 ((bneeds_any R ⟨m1, m2, m3⟩ (hst.no k8) hin).mono ?_)
  rintro _ w14 ⟨rfl, c14⟩
  obtain ⟨P, hP, hP2⟩ : ∃ P : Dp × Dp, (if rightR r = true then needsT (nV r.steps) else .tuple #[.int .i64 0, .int .i64 0, .int .i64 0, .int .i64 0]) = needsT P ∧ (rightR r = true → P = nV r.steps) := by
    by_cases h : rightR r = true
    · exact ⟨nV r.steps, if_pos h, fun _ => rfl⟩
    · exact ⟨(d0, d0), if_neg h, fun h' => absurd h' h⟩
  rw [hP]
  have k14 := trN k8 c14
  have o14 := o5.no c14
  refine ⟨P.1.needs, P.1.grow, P.2.needs, P.2.grow, rfl, fun b w' => (b = true → ¬ FitR r) ∧ (b = false → FitR r) ∧ Chg No w8 w', ?_, ?_⟩
  rotate_left
  · refine rdRc o14 ((right_rc R ⟨m1, m2, m3⟩ (hst.no k14) hin (D := fun _ => True)).mono ?_)
    rintro _ w24 ⟨rfl, c24⟩
    have k824 := trN c14 c24
    have o24 := o14.no c24
    refine ⟨_, rfl, brB_of (fun h => ?_) (fun h => ⟨R.steps, o24.cell rfl, brB_of (fun h2 => ?_) (fun h2 => ?_)⟩)⟩
    · have h : rightR r = false := by simpa using h
      exact ⟨(fun _ f => by rw [f.right] at h; cases h), (fun h => by cases h), k824⟩
    · have h2 : (R.steps.len : Int) = 0 := by simpa using h2
      exact ⟨fun _ f => f.some (List.length_eq_zero_iff.1 (by omega)), (fun h => by cases h), k824⟩
    have h : rightR r = true := by simpa using h
    have h2 : (R.steps.len : Int) ≠ 0 := by simpa using h2
    have hne : r.steps ≠ [] := fun e => by rw [e] at hl; exact h2 (by rw [hl]; rfl)
    have hp := hP2 h
    subst hp
    refine brB_of (fun h3 => ?_) (fun h3 => ?_)
    · have h3 := of_decide_eq_true h3
      exact ⟨fun _ f => by have := imax_le f.n1 f.g1; omega, (fun h => by cases h), k824⟩
    · have h3 := of_decide_eq_false h3
      have i1 := le_imax (nV r.steps).1.needs (nV r.steps).1.grow
      have i2 := le_imax (nV r.steps).2.needs (nV r.steps).2.grow
      refine ⟨fun h4 f => ?_, fun h4 => ?_, k824⟩
      · have h4 := of_decide_eq_true h4
        have := imax_le f.n2 f.g2
        omega
      · have h4 := of_decide_eq_false h4
        exact ⟨h, hne, by omega, by omega, by omega, by omega⟩
  rintro bfit w27 ⟨hf1, hf2, c27⟩
  have k27 := trN k8 c27
  refine brB_of (fun hb => ?_) (fun hb => ?_)
  · refine ⟨(o7.no c27).wr (by simp [trP]), fun w29 hw29 => ?_⟩
    obtain ⟨o29, c29⟩ := (o7.no c27).up (k := 0) (vs := trP tr0) (cs' := trP tr0) (by simp [trP]) rfl hw29
    refine ⟨0, 0, 0, 0, 0, nilS, nilS, 0, nilS, o29.cell rfl, o29.cell rfl, o29.cell rfl, o29.cell rfl, o29.cell rfl, o29.cell rfl, o29.cell rfl, o29.cell rfl, o29.cell rfl, tr0, false, rfl, k27.trans c29 (fun _ _ h => h) (fun k hk he => by subst he; omega), fun _ => ⟨rfl, hf1 hb⟩, fun h => by cases h⟩
  have ft := hf2 hb
  obtain ⟨h120, hrl, hall⟩ := rightR_of ft.right
  obtain rfl := hP2 ft.right
  have hne := ft.some
  obtain ⟨p1, p2⟩ := rightL_ends hrl hne
  have lpos : 0 < r.steps.length := List.length_pos_iff.2 hne
  obtain ⟨q1, q2, q3, q4⟩ := nV_0 hall
  have f1 := ft.n1; have f2 := ft.g1; have f3 := ft.n2; have f4 := ft.g2
  obtain ⟨P, hPe⟩ : ∃ P, nV r.steps = P := ⟨_, rfl⟩
  rw [hPe] at q1 q2 q3 q4 f1 f2 f3 f4 ⊢
  have o5' := o5.no c27
  intro b39 w40 hb39 hw40 b41 w42 hb41 hw42 w43 hw43
  have c40 := al hw40
  have c42 := al hw42
  have c43 := dw hw43
  have m40 : MpIs ekI ekI w40 b39 fun _ => none := MpIs.new ekI ekI hb39 hw40
  obtain ⟨C0, hC0⟩ : ∃ C0 : BC, C0 = ⟨nilS, nilS, nilS, nilS, b39, ⟨0, 0, nilS, nilS⟩⟩ := ⟨_, rfl⟩
  have o42 : Ob w42 b41 (bC ⟨0, 0, 0, 0, 0, 0, nilS, []⟩ C0 v0) T_build_builder := by rw [hw42, hb41, hC0]; exact Ob.new w40 (bC ⟨0, 0, 0, 0, 0, 0, nilS, []⟩ ⟨nilS, nilS, nilS, nilS, b39, ⟨0, 0, nilS, nilS⟩⟩ v0) T_build_builder
  have k43 := trN (trN c40 c42) c43
  have z40 : w40.heap.size = w27.heap.size + 1 := by rw [hw40]; simp
  have z42 : w42.heap.size = w40.heap.size + 1 := by rw [hw42]; simp
  have z43 := c43.size
  have z27 := c27.size
  have z8 := k8.size
  have o5a := o5'.no k43
  refine ⟨fun w' => Chg No w43 w', Chg.refl _ _, R.start, fun w' c => (o5a.no c).cell rfl, hdRc (fun w' c => o5a.no c) ?_⟩
  have kk43 := trN k27 k43
  refine (cells_rc R (hst.no kk43) (fun x hx => (sing_of (hall x hx)).2.1) (by omega)).mono ?_
  rintro _ w51 ⟨s52, rfl, h52, c51, b52⟩
  have z51 := c51.size
  refine ⟨s52, rfl, c51, c51, (((o42.no c43).no c51)).wr (by simp [bC]), fun w53 hw53 => ?_⟩
  obtain ⟨h, hh⟩ : ∃ h : BH, h = ⟨R.start, P.1.needs, P.2.needs, P.1.grow, P.2.grow, 0, s52, onceI (plsL r.steps)⟩ := ⟨_, rfl⟩
  have hs1 : h.slots = P.1.needs := by rw [hh]
  have hs2 : h.backs = P.2.needs := by rw [hh]
  have hs3 : h.grow = P.1.grow := by rw [hh]
  have hs4 : h.growBack = P.2.grow := by rw [hh]
  have hs5 : h.cS = s52 := by rw [hh]
  have hs6 : h.cells = onceI (plsL r.steps) := by rw [hh]
  have hs7 : h.start = R.start := by rw [hh]
  obtain ⟨o53, c53⟩ := ((o42.no c43).no c51).up (k := 0) (vs := [.int .i64 R.start, .int .i64 P.1.needs, .int .i64 P.2.needs, .int .i64 P.1.grow, .int .i64 P.2.grow, nilS.val, nilS.val, .int .i64 0, s52.val]) (cs' := bC h C0 v0) (by simp [bC]) (by rw [hh, hC0]; rfl) hw53
  have z53 := c53.size
  have n52 : ∀ k, s52.blk = some k → w43.heap.size ≤ k ∧ k < w51.heap.size := fun k hk => ⟨b52 k hk, h52.lt hk⟩
  have ch53 : Chg No w27 w53 := (trN k43 c51).trans c53 (fun _ _ h => h) (fun k hk he => by subst he; omega)
  have g53 : St w27 b41 h Em w53 v0 := by
    refine St.start (by rw [hC0] at o53; exact o53) (((((m40.no c42).no c43).no c51)).chg c53 (fun he => by omega)) ?_ (fun k hk => ?_) (by omega) (by omega) (by omega) ch53
    · rw [hs5, hs6]; exact h52.rd.chg c53 (fun k hk he => by have := n52 k hk; omega)
    · rw [hs5] at hk
      have := n52 k hk
      omega
  obtain ⟨ns, hns⟩ : ∃ ns : Nat, h.slots = ns := ⟨h.slots.toNat, by omega⟩
  obtain ⟨nb, hnb⟩ : ∃ nb : Nat, h.backs = nb := ⟨h.backs.toNat, by omega⟩
  rw [← hs1, ← hs2, wr_in (x := h.slots - 1) (by omega), wr_in (x := h.backs - 1) (by omega)]
  refine ⟨fun k w' => ∃ (j : Nat) (v : BV), k = h.slots - 1 - j ∧ j ≤ ns ∧ St w27 b41 h Em w' v ∧ Gx h v ∧ v.ins.length = j ∧ v.stack.length = j ∧ v.back = [] ∧ v.outs = [], fun k _ => (k + 1).toNat, ⟨0, v0, by omega, by omega, g53, gx0 (by omega), rfl, rfl, rfl, rfl⟩, ?_⟩
  rintro k w54 ⟨j, v, rfl, hj, g, gx, e1, e2, e3, e4⟩
  refine brB_of (fun hge => ?_) (fun hlt => ?_)
  · have hge := of_decide_eq_true hge
    refine slot_step g gx (by omega) (by omega) fun w' v' g' gx' d1 d2 d3 d4 => ?_
    rw [wr_in (by omega)]
    exact ⟨⟨j + 1, v', by omega, by omega, g', gx', by omega, by omega, d3.trans e3, d4.trans e4⟩, by show Int.toNat (h.slots - 1 - (j : Int) - 1 + 1) < Int.toNat (h.slots - 1 - (j : Int) + 1); omega⟩
  have hlt := of_decide_eq_false hlt
  obtain rfl : j = ns := by omega
  refine ⟨fun k w' => ∃ (i : Nat) (v : BV), k = h.backs - 1 - i ∧ i ≤ nb ∧ St w27 b41 h Em w' v ∧ Gx h v ∧ v.ins.length = j + i ∧ v.stack.length = j ∧ v.back.length = i ∧ v.outs = [], fun k _ => (k + 1).toNat, ⟨0, v, by omega, by omega, g, gx, by omega, e2, by rw [e3]; rfl, e4⟩, ?_⟩
  clear g gx e1 e2 e3 e4 v
  rintro k w63 ⟨i, v, rfl, hi, g, gx, e1, e2, e3, e4⟩
  refine brB_of (fun hge => ?_) (fun hlt => ?_)
  · have hge := of_decide_eq_true hge
    refine backs_step g gx (by omega) (by omega) fun w' v' g' gx' d1 d2 d3 d4 => ?_
    rw [wr_in (by omega)]
    exact ⟨⟨i + 1, v', by omega, by omega, g', gx', by omega, by rw [d3]; exact e2, by omega, d4.trans e4⟩, by show Int.toNat (h.backs - 1 - (i : Int) - 1 + 1) < Int.toNat (h.backs - 1 - (i : Int) + 1); omega⟩
  have hlt := of_decide_eq_false hlt
  obtain rfl : i = nb := by omega
  have t0 : nV (r.steps.take 0) = (d0, d0) := rfl
  refine ⟨R.steps, (o5'.no g.ch).cell rfl, fun n w' => ∃ (q : Nat) (v : BV), n = q ∧ q ≤ r.steps.length ∧ St w27 b41 h Em w' v ∧ Gx h v ∧ (v.stack.length : Int) = h.slots + (nV (r.steps.take q)).1.now ∧ (v.back.length : Int) = h.backs + (nV (r.steps.take q)).2.now ∧ v.ins.length + 3 * v.stack.length ≤ j + i + 3 * j + 6 * q ∧ v.outs.length ≤ 2 * q, fun n _ => r.steps.length - n.toNat, ⟨0, v, rfl, Nat.zero_le _, g, gx, by rw [t0, e2, hns]; show (j : Int) = j + 0; omega, by rw [t0, e3, hnb]; show (i : Int) = i + 0; omega, by omega, by rw [e4]; exact Nat.zero_le _⟩, ?_⟩
  clear g gx e1 e2 e3 e4 v
  rintro n w73 ⟨q, v, rfl, hq, g, gx, e1, e2, e3, e4⟩
  obtain ⟨⟨a1, a2⟩, ⟨a3, a4⟩⟩ := nV_now hall hq
  rw [hPe] at a1 a2 a3 a4
  have kg := trN k27 g.ch
  have zg := g.ch.size
  have ex : ∀ (ip n : Int), 0 ≤ n ∧ n ≤ 120 → 0 ≤ ip ∧ ip ≤ 2999 → ExI h ⟨ip, n, v.stack, v.back⟩ := fun ip n hn hi => ⟨hn, hi, by show (v.stack.length : Int) ≤ _; omega, by show (v.back.length : Int) ≤ _; omega⟩
  refine brB_of (fun hlt => ?_) (fun hge => ?_)
  · have hlt : q < r.steps.length := by have := of_decide_eq_true hlt; omega
    obtain ⟨x, hx⟩ : ∃ x, r.steps[q]? = some x := ⟨_, List.getElem?_eq_getElem hlt⟩
    have hsx := hall x (List.mem_of_getElem? hx)
    obtain ⟨_, si, _⟩ := sing_of hsx
    obtain ⟨b1, b2, b3, b4⟩ := nV_at hx
    have st : nV (r.steps.take (q + 1)) = nStep (nV (r.steps.take q)) x := nV_step hx
    have st1 : (nV (r.steps.take (q + 1))).1.now = (nV (r.steps.take q)).1.now + ((mG x : Int) - mT x) := by rw [st]; rfl
    have st2 : (nV (r.steps.take (q + 1))).2.now = (nV (r.steps.take q)).2.now + ((mGB x : Int) - mTB x) := by rw [st]; rfl
    rw [hPe] at b1 b2 b3 b4
    refine (hst.no kg).ix (i := (q : Int)) (by omega) (by rw [Int.toNat_natCast]; exact hx) fun ad _ hcell => ?_
    have c0 := hcell 0 _ rfl
    rw [add0] at c0
    refine ⟨x.ip, x.cell, x.arg, x.next, c0, hcell 1 _ rfl, hcell 2 _ rfl, hcell 3 _ rfl, varSn x fun b80 w82 hb80 z82 o82 c82 w83 hw83 => ?_⟩
    have c83 := dw hw83
    have g83 := g.no (trN c82 c83)
    have o83 := o82.no c83
    refine ⟨fun w' => Ob w' b80 (seC x) T_api_Seen, o83, hdSn (fun w' h => h) ⟨x.ip, fun w' h => h.cell rfl, ?_⟩⟩
    refine (bout_any g83 x.ip (q : Int) (by omega)).mono ?_
    rintro _ w91 ⟨o, rfl, ho, c91⟩
    refine ⟨o.ip, o.steps, o.stack, o.back, rfl, ?_⟩
    have nbb : b41 < w73.heap.size := by
      obtain ⟨C, os, X, gg⟩ := g
      exact gg.ob.lt
    refine turn_any g83 x c91 ho (S := fun w' => Ob w' b80 (seC x) T_api_Seen) (fun w' c => (o83.no c91).chg c (fun he => by omega)) fun w98 g98 => ?_
    have r98 := Run.of (v := v) (x := x) (ov := ⟨x.ip, (q : Int), v.stack, v.back⟩) g98 gx (ex _ _ (by omega) (by omega)) ⟨gx.st, gx.bk⟩
    refine r98.one (by omega) hsx (by omega) (by omega) (by omega) (by omega) (by omega) fun w2 sp => ⟨rfl, ?_⟩
    obtain ⟨_, s', b', c', ⟨v', g', rv, _, _⟩, h1, h2, h3, _⟩ := sp
    have i1 := rv.ic
    have i2 := rv.oc
    unfold ocB at i2
    have i3 := rv.sk
    have i4 := rv.bk
    rw [wr_in (by omega)]
    refine ⟨⟨q + 1, v', by omega, by omega, g', rv.gd.x, by rw [i3]; omega, by rw [i4]; omega, by rw [i3]; omega, by omega⟩, by show r.steps.length - Int.toNat ((q : Int) + 1) < r.steps.length - Int.toNat (q : Int); omega⟩
  · have hge : q = r.steps.length := by have := of_decide_eq_false hge; omega
    subst hge
    refine ⟨R.fin, (o5'.no g.ch).cell rfl, R.steps, (o5'.no g.ch).cell rfl, ?_⟩
    rw [hl, m2]
    refine (bout_any g r.fin (r.steps.length : Int) (by omega)).mono ?_
    rintro _ w104 ⟨o, rfl, ho, c104⟩
    refine ⟨o.ip, o.steps, o.stack, o.back, rfl, ?_⟩
    refine (badd_any (E := Em) (g.grow (F := fun k => w73.heap.size ≤ k ∧ k < w104.heap.size) c104 (fun k hk => hk)) (fun k hk => ⟨fun he => he.elim, by omega⟩) ho (by omega)).mono ?_
    rintro _ w110 ⟨rfl, ⟨C, os, X, g110⟩, _⟩
    refine ⟨_, rfl, g110.ob.wr (by simp [bC]), fun w112 hw112 => ?_⟩
    obtain ⟨v2, hv2⟩ : ∃ v2 : BV, v2 = { v with outs := v.outs ++ [(⟨r.fin, (r.steps.length : Int), v.stack, v.back⟩ : OuV)] } := ⟨_, rfl⟩
    rw [← hv2] at g110
    obtain ⟨h', hh'⟩ : ∃ h' : BH, h' = { h with last := (v.outs.length : Int) } := ⟨_, rfl⟩
    obtain ⟨o112, c112⟩ := g110.ob.up (k := 7) (vs := [.int .i64 (v.outs.length : Int)]) (cs' := bC h' C v2) (by simp [bC]) (by rw [hh'] <;> rfl) hw112
    have g112 := (g110.newN c112 o112 ⟨rfl, rfl, rfl, rfl, rfl, rfl⟩ (by rw [hh']; exact ⟨rfl, rfl⟩)).1
    have o7' := o7.no (trN c27 g112.ch)
    refine ⟨h'.start, h'.slots, h'.backs, h'.grow, h'.growBack, C.ins, C.outs, h'.last, h'.cS, o112.cell rfl, o112.cell rfl, o112.cell rfl, o112.cell rfl, o112.cell rfl, o112.cell rfl, o112.cell rfl, o112.cell rfl, o112.cell rfl, o7'.wr (by simp [trP]), fun w122 hw122 => ?_⟩
    obtain ⟨t, ht⟩ : ∃ t : TrP, t = ⟨h'.start, h'.slots, h'.backs, h'.grow, h'.growBack, C.ins, C.outs, h'.last, h'.cS⟩ := ⟨_, rfl⟩
    obtain ⟨o122, c122⟩ := o7'.up (w' := w122) (k := 0) (vs := trP t) (cs' := trP t) (by simp [trP]) rfl (by rw [ht]; exact hw122)
    have rvq : trP t = trP ⟨h'.start, h'.slots, h'.backs, h'.grow, h'.growBack, C.ins, C.outs, h'.last, h'.cS⟩ := by rw [ht]
    rw [rvq] at o122
    refine ⟨_, _, _, _, _, _, _, _, _, o122.cell rfl, o122.cell rfl, o122.cell rfl, o122.cell rfl, o122.cell rfl, o122.cell rfl, o122.cell rfl, o122.cell rfl, o122.cell rfl, _, true, rfl, ?_, (fun h => by cases h), fun _ => ⟨ft, trOf h v ⟨r.fin, (r.steps.length : Int), v.stack, v.back⟩, ?_, ?_, ?_⟩⟩
    · exact (trN k27 g112.ch).trans c122 (fun _ _ h => h) (fun k hk he => by omega)
    · have nn : ∀ {i k : Nat}, (msB b41 C)[i]? = some (some k) → ¬ k = b7 := fun hk he => by have := (g112.own _ _ hk).1; omega
      have nx : ∀ {k : Nat}, X k → ¬ k = b7 := fun hk he => by have := (g112.xl _ hk).1; omega
      have e1 : v2.ins = v.ins := by rw [hv2]
      have e2 : v2.outs = v.outs ++ [⟨r.fin, (r.steps.length : Int), v.stack, v.back⟩] := by rw [hv2]
      have e3 : h'.cells = h.cells := by rw [hh']
      refine ⟨by rw [hh']; exact ⟨rfl, rfl, rfl, rfl, rfl, rfl⟩, by
        have t1 := g112.ins.rd.chg c122 (fun k hk => nn (i := 2) (show (msB b41 C)[2]? = some (some k) by rw [← hk]; rfl))
        rw [e1] at t1; exact t1, ⟨os, g112.outs.rd.chg c122 (fun k hk => nn (i := 3) (show (msB b41 C)[3]? = some (some k) by rw [← hk]; rfl)), ?_⟩, by
        have t1 := g112.cel.chg c122 (fun k hk => nx (g112.celX k hk))
        rw [e3] at t1; exact t1, fun _ _ => trivial, fun _ _ => trivial, fun _ _ => trivial⟩
      have := (g112.ous.chg c122 (fun k hk => nx hk)).mono (D' := fun _ => True) (fun _ _ => trivial)
      rw [e2] at this; exact this
    · refine right_of (v := { v with exit := -1 }) gx ⟨?_, ?_, ?_, ?_, ?_, ?_, ?_⟩ (ex _ _ (by omega) (by omega)) (by omega) ?_
      · show v.ins.length ≤ 1000; omega
      · show (v.outs ++ [_]).length ≤ 300
        rw [List.length_append, List.length_singleton]; omega
      · show 0 ≤ h.start ∧ h.start ≤ 2999
        rw [hs7, m1]; omega
      · show 0 ≤ h.slots ∧ h.slots ≤ 48; omega
      · show 0 ≤ h.grow ∧ h.grow ≤ 48; omega
      · show 0 ≤ h.backs ∧ h.backs ≤ 48; omega
      · show 0 ≤ h.growBack ∧ h.growBack ≤ 48; omega
      · rw [hs6]
        obtain ⟨y1, y2⟩ := onceI_ok (plsL r.steps)
        exact cellsV_of y1 fun y hy => plsL_single hall y ((y2 y).1 hy)
    · have el : outAt (trOf h v ⟨r.fin, (r.steps.length : Int), v.stack, v.back⟩) (v.outs.length : Int) = ⟨r.fin, (r.steps.length : Int), v.stack, v.back⟩ := last_ou _ _
      refine ⟨hs7.trans m1, ?_, hs6, ?_, ?_⟩
      · rw [hPe]; exact ⟨hs1, hs3, hs2, hs4⟩
      · show (outAt (trOf h v _) (v.outs.length : Int)).steps = _
        rw [el]
      · show (outAt (trOf h v _) (v.outs.length : Int)).ip = _
        rw [el]
end Go.Proofs.Ytkjpmkopnkkbmaa

/- BuildStops: what a trace that was built must say. -/
set_option maxRecDepth 100000
namespace Go.Proofs.Ytkjpmkopnkkbmaa
open Go.RowKit

theorem frame_any {w : World} (t : TrP) (R : RcC) {r : RcV} {v : TrG} (ht : TrIs (fun _ => True) w t v) (hv : RightV v) (hh : HdT v r) (ft : FitR r) (hnum : R.start = r.start ∧ R.fin = r.fin ∧ R.loop = r.loop) (hst : Rd seE w R.steps r.steps) :
    Calls Try.prog fn_hollowaylaw16_Frame #[.agg (trP t).toArray, .agg (rcC R).toArray] w fun e w' => e = .returned (.bool true) ∧ Chg No w w' := by
  refine (hollowaylaw16_Frame_lift (K := fun r w' => r = .bool true ∧ Chg No w w') ?_).mono (by rintro e w' ⟨r, rfl, rfl, h⟩; exact ⟨rfl, h⟩)
  unfold hollowaylaw16_Frame_sh
  obtain ⟨m1, m2, m3⟩ := hnum
  obtain ⟨n1, n2, n3, n4, n5, n6⟩ := ht.nums
  obtain ⟨g1, g2, g3, g4⟩ := hh.nums
  obtain ⟨h120, hrl, hall⟩ := rightR_of ft.right
  have hl := hst.len
  intro b14 w15 hb14 hw15
  have c15 := al hw15
  have o14 : Ob w15 b14 (trP t) T_api_Trace := by rw [hw15, hb14]; exact Ob.new w (trP t) T_api_Trace
  refine inRc R fun b16 w17 hb16 z17 o16 c17 => ?_
  have k17 := trN c15 c17
  have p14 := o14.no c17
  refine rdRc o16 ((rneeds_any R ft.right (hst.no k17)).mono ?_)
  rintro _ w23 ⟨rfl, c23⟩
  have k23 := trN k17 c23
  have q14 := p14.no c23
  refine ⟨_, _, _, _, rfl, t.start, t.slots, t.backs, t.grow, t.growBack, t.ins, t.outs, t.last, t.cells, q14.cell rfl, q14.cell rfl, q14.cell rfl, q14.cell rfl, q14.cell rfl, q14.cell rfl, q14.cell rfl, q14.cell rfl, q14.cell rfl, (rright_any t (ht.no k23)).mono ?_⟩
  rintro _ w38 ⟨b, rfl, hb, c38⟩
  have hb := hb.2 hv
  subst hb
  refine ⟨_, rfl, brB_f ?_⟩
  have k38 := trN k23 c38
  have s14 := q14.no c38
  obtain ⟨os, ho, hos⟩ := (ht.no k38).outs
  obtain ⟨l0, l1, _, _⟩ := hv.last
  have hlo := ho.len
  have hoe := hos.1
  refine ⟨t.outs, s14.cell rfl, t.last, s14.cell rfl, ?_⟩
  rw [n6]
  obtain ⟨o, hox⟩ : ∃ o, os[v.last.toNat]? = some o := ⟨_, List.getElem?_eq_getElem (by omega)⟩
  have hov : v.outs[v.last.toNat]? = some (outAt v v.last) := by
    unfold outAt
    rw [List.getD_eq_getElem?_getD, List.getElem?_eq_getElem (by omega)]; rfl
  obtain ⟨u1, u2, _, _, _, _⟩ := hos.2 _ o _ hox hov
  refine ho.ix (i := v.last) l0 hox fun a _ hcell => ?_
  have q0 := hcell 0 _ rfl
  rw [add0] at q0
  refine ⟨o.ip, o.steps, o.stack, o.back, q0, hcell 1 _ rfl, hcell 2 _ rfl, hcell 3 _ rfl, fun b47 w48 hb47 hw48 => ?_⟩
  have c48 := al hw48
  have o48 : Ob w48 b47 (ouC ⟨0, 0, nilS, nilS⟩) T_api_Out := by rw [hw48, hb47]; exact Ob.new w38 (ouC ⟨0, 0, nilS, nilS⟩) T_api_Out
  refine ⟨o48.wr (by simp [ouC]), fun w49 hw49 w50 hw50 => ?_⟩
  obtain ⟨o49, c49⟩ := o48.up (k := 0) (vs := ouC o) (cs' := ouC o) (by simp [ouC]) rfl hw49
  have c50 := dw hw50
  have z48 := o48.lt
  have c3850 : Chg No w38 w50 := (c48.trans c49 (fun _ _ h => h) (fun k hk he => by omega)).trans c50 (fun _ _ h => h) (fun _ _ h => h)
  have k50 := trN k38 c3850
  have o47 := o49.no c50
  have o14' := s14.no c3850
  have o16' := ((o16.no c23).no c38).no c3850
  refine ⟨fun w' => Chg No w50 w', Chg.refl _ _, t.start, Ob.held (fun w' c => o14'.no c) rfl, R.start, Ob.held (fun w' c => o16'.no c) rfl, ?_⟩
  have hin : ∀ x ∈ r.steps, 0 ≤ x.ip ∧ x.ip < 3000 := fun x hx => (sing_of (hall x hx)).2.1
  refine brB_t' (by rw [n1, hh.start, m1]; simp) ⟨t.slots, Ob.held (fun w' c => o14'.no c) rfl, brB_t' (by rw [n2, g1]; simp) ⟨t.grow, Ob.held (fun w' c => o14'.no c) rfl, brB_t' (by rw [n4, g2]; simp) ⟨t.backs, Ob.held (fun w' c => o14'.no c) rfl, brB_t' (by rw [n3, g3]; simp) ⟨t.growBack, Ob.held (fun w' c => o14'.no c) rfl, brB_t' (by rw [n5, g4]; simp) ⟨t.cells, Ob.held (fun w' c => o14'.no c) rfl, ?_⟩⟩⟩⟩⟩
  refine hdRc (fun w' c => o16'.no c) ((rcells_any R (hst.no k50) hin (by omega)).mono ?_)
  rintro _ w64 ⟨s65, rfl, h65, c64, _⟩
  refine ⟨s65, rfl, c64, ?_⟩
  have hcl : Rd intE w64 t.cells (inN (plsL r.steps) 3001) := by
    have := ((ht.no k50).no c64).cells
    rw [hh.cells, once_in (n := 3001) (plsL_in hin)] at this
    exact this
  refine (sameInts_ok t.cells s65 _ w64 hcl h65.rd).mono ?_
  rintro _ w67 ⟨rfl, c67⟩
  have k67 := trN c64 c67
  refine ⟨_, rfl, k67, brB_t ⟨o.steps, Ob.held (fun w' c => o47.no c) rfl, R.steps, Ob.held (fun w' c => o16'.no c) rfl, brB_t' ?_ ⟨o.ip, Ob.held (fun w' c => o47.no c) rfl, R.fin, Ob.held (fun w' c => o16'.no c) rfl, ?_, trN k50 k67⟩⟩⟩
  · rw [u2, hh.last.1, hl]; simp
  · rw [u1, hh.last.2, m2]; simp
end Go.Proofs.Ytkjpmkopnkkbmaa

/- BuildStops: that there is a trace at all. -/
set_option maxRecDepth 100000
namespace Go.Proofs.Ytkjpmkopnkkbmaa
open Go.RowKit

def xA : SnV := ⟨200, 6, 0, 201⟩
def xB : SnV := ⟨201, 11, 0, 202⟩
def rA : RcV := ⟨200, 202, false, [xA, xB]⟩
theorem rA_right : rightR rA = true := by decide +kernel
theorem rA_needs : nV rA.steps = (⟨0, 1, 1⟩, ⟨0, 0, 0⟩) := rfl
theorem rA_fit : FitR rA := ⟨rA_right, (fun h => by cases h), by rw [rA_needs]; decide, by rw [rA_needs]; decide, by rw [rA_needs]; decide, by rw [rA_needs]; decide⟩
theorem rA_cells : onceI (plsL rA.steps) = [200, 201] := by
  obtain ⟨h1, h2⟩ := onceI_ok (plsL rA.steps)
  refine uniq_lt h1 (by decide) fun x => ?_
  rw [h2]
  have e : plsL rA.steps = [200, 201] := rfl
  rw [e]
theorem alive16_any {w : World} : Calls Try.prog fn_hollowaylaw16_alive #[] w fun e w' => e = .returned (.bool true) ∧ Chg No w w' := by
  refine (hollowaylaw16_alive_lift (K := fun r w' => r = .bool true ∧ Chg No w w') ?_).mono (by rintro e w' ⟨r, rfl, rfl, h⟩; exact ⟨rfl, h⟩)
  unfold hollowaylaw16_alive_sh
  intro b1 w2 hb1 hw2
  have c2 := al hw2
  have h2 : Ow seE w2 ⟨some ⟨b1, 0, none⟩, 2, 2⟩ [xA, xB] := by rw [hw2, hb1]; exact Ow.lit (E := seE) w [xA, xB] _ rfl (by show 2 ≤ maxLen; unfold maxLen; omega)
  refine varRc ⟨200, 202, false, ⟨some ⟨b1, 0, none⟩, 2, 2⟩⟩ fun b3 w5 hb3 z5 o5 c5 => rdRc o5 ?_
  have k5 := trN c2 c5
  have hst : Rd seE w5 ⟨some ⟨b1, 0, none⟩, 2, 2⟩ rA.steps := h2.rd.no c5
  have hin : ∀ x ∈ rA.steps, Cn.In x.ip := fun x hx => by
    obtain ⟨_, s, _⟩ := sing_of ((rightR_of rA_right).2.2 x hx)
    unfold Cn.In; omega
  refine (bneeds_any ⟨200, 202, false, ⟨some ⟨b1, 0, none⟩, 2, 2⟩⟩ (r := rA) ⟨rfl, rfl, rfl⟩ hst hin).mono ?_
  rintro _ w11 ⟨rfl, c11⟩
  rw [if_pos rA_right, rA_needs]
  refine ⟨1, 1, 0, 0, rfl, rdRc (o5.no c11) ?_⟩
  have k11 := trN k5 c11
  refine (trace_any ⟨200, 202, false, ⟨some ⟨b1, 0, none⟩, 2, 2⟩⟩ (r := rA) ⟨rfl, rfl, rfl⟩ (hst.no c11) hin).mono ?_
  rintro _ w21 ⟨_, rfl, t, ok, rfl, c21, hno, hyes⟩
  have hok : ok = true := by
    cases ok with
    | true => rfl
    | false => exact absurd rA_fit (hno rfl).2
  subst hok
  obtain ⟨_, v, ht, hv, hh⟩ := hyes rfl
  have k21 := trN k11 c21
  refine ⟨t.start, t.slots, t.backs, t.grow, t.growBack, t.ins, t.outs, t.last, t.cells, true, rfl, fun b32 w33 hb32 hw33 => ?_⟩
  have c33 := al hw33
  have o33 : Ob w33 b32 (trP tr0) T_api_Trace := by rw [hw33, hb32]; exact Ob.new w21 (trP tr0) T_api_Trace
  refine ⟨o33.wr (by simp [trP]), fun w34 hw34 => ?_⟩
  obtain ⟨o34, c34⟩ := o33.up (w' := w34) (k := 0) (vs := trP t) (cs' := trP t) (by simp [trP]) rfl hw34
  have c2134 : Chg No w21 w34 := c33.trans c34 (fun _ _ h => h) (fun k hk he => by omega)
  have k34 := trN k21 c2134
  obtain ⟨n1, n2, n3, n4, n5, n6⟩ := ht.nums
  obtain ⟨g1, g2, g3, g4⟩ := hh.nums
  have hc := ht.cells.len
  rw [hh.cells, rA_cells] at hc
  refine brB_t' (by decide) (brB_t' (by decide) (brB_t' (by decide) (brB_t' (by decide) (brB_t ⟨t.start, o34.cell rfl, brB_t' ?_ ⟨t.slots, o34.cell rfl, brB_t' ?_ ⟨t.grow, o34.cell rfl, brB_t' ?_ ⟨t.cells, o34.cell rfl, brB_t' ?_ ?_⟩⟩⟩⟩))))
  · rw [n1, hh.start]; rfl
  · rw [n2, g1, rA_needs]; rfl
  · rw [n4, g2, rA_needs]; rfl
  · rw [hc]; rfl
  refine ⟨t.start, t.slots, t.backs, t.grow, t.growBack, t.ins, t.outs, t.last, t.cells, o34.cell rfl, o34.cell rfl, o34.cell rfl, o34.cell rfl, o34.cell rfl, o34.cell rfl, o34.cell rfl, o34.cell rfl, o34.cell rfl, (rright_any t (ht.no c2134)).mono ?_⟩
  rintro _ w49 ⟨b, rfl, hb, c49⟩
  have hb := hb.2 hv
  subst hb
  exact ⟨_, rfl, rfl, trN k34 c49⟩
end Go.Proofs.Ytkjpmkopnkkbmaa

/- One cell of one element written. -/
set_option maxRecDepth 100000
namespace Go.Proofs.Ytkjpmkopnkkbmaa
open Go.RowKit

section
variable {α : Type}
theorem fl_set1 (E : Enc α) {xs : List α} {k i : Nat} (hk : k < xs.length) {x x' : α} (hx : xs[k]? = some x) (hi : i < E.sz) {u : Value} (he : E.e x' = (E.e x).set i u) : fl E (xs.set k x') = (fl E xs).set (k * E.sz + i) u := by
  have hsplit : xs.set k x' = xs.take k ++ x' :: xs.drop (k + 1) := List.set_eq_take_append_cons_drop.trans (if_pos hk)
  have hxk : xs[k] = x := by rw [List.getElem?_eq_getElem hk] at hx; exact Option.some.inj hx
  have hsplit2 : xs = xs.take k ++ x :: xs.drop (k + 1) := by
    rw [← hxk, ← List.drop_eq_getElem_cons hk, List.take_append_drop]
  have hlt : (fl E (xs.take k)).length = k * E.sz := by rw [fl_length, List.length_take]; congr 1; omega
  have hel := E.len x
  have e2 : fl E xs = fl E (xs.take k) ++ (E.e x ++ fl E (xs.drop (k + 1))) := by
    conv => lhs; rw [hsplit2, fl_append, fl_cons]
  rw [hsplit, fl_append, fl_cons, he, e2, List.set_append_right _ _ (by omega), hlt, List.set_append_left _ _ (by omega)]
  congr 3; omega
theorem Ox.set1 {E : Enc α} {w : World} {s : Sl} {xs : List α} (h : Ox E w s xs) {a : Addr} (ha : s.ptr = some a) {k i : Nat} (hk : k < xs.length) {x x' : α} (hx : xs[k]? = some x) (hi : i < E.sz) {u : Value} (he : E.e x' = (E.e x).set i u) :
    wrOk w ((a.add (k * E.sz)).add i) 1 ∧ Rd E (stW w ((a.add (k * E.sz)).add i) 0 [u]) s (xs.set k x') := by
  obtain ⟨hsp, hr⟩ := h.room a ha
  have hcap := h.rd.capL
  have hmul : (k + 1) * E.sz ≤ s.cap * E.sz := Nat.mul_le_mul_right _ (by omega)
  rw [Nat.succ_mul] at hmul
  have hw : stW w ((a.add (k * E.sz)).add i) 0 [u] = w.setCells a.block (a.off + (k * E.sz + i)) [u] := by
    rw [add_add, stW_setCells (by rw [add_at hsp]), add_at hsp]; rfl
  have hin : ∀ q, q < ([u] : List Value).length → (w.cell? ⟨a.block, a.off + (k * E.sz + i) + q, none⟩).isSome = true := fun q hq => by
    have hq : q < 1 := hq
    have := (hr (k * E.sz + i) (by omega)).1
    rw [add_at hsp] at this
    rw [show q = 0 by omega]; exact this
  refine ⟨fun q hq => ?_, ?_⟩
  · rw [show q = 0 by omega, add_add, add_add, Nat.add_zero]
    obtain ⟨h1, h2⟩ := hr (k * E.sz + i) (by omega)
    exact ⟨Option.isSome_iff_exists.1 h1, h2⟩
  rw [hw]
  obtain ⟨ao, cap, e0, h1, h2, h3, h4⟩ := h.rd
  have hp : s.ptr = ao := by cases s; simp [Sl.val] at e0; exact e0.1
  refine ⟨ao, cap, by rw [List.length_set]; exact e0, by rw [List.length_set]; exact h1, h2, fun hno => by rw [List.length_set]; exact h3 hno, fun j z hz => ⟨a, hp ▸ ha, ?_⟩⟩
  rw [fl_set1 E hk hx hi he, List.getElem?_set] at hz
  rw [add_at hsp]
  by_cases hj : k * E.sz + i = j
  · rw [if_pos hj] at hz
    split at hz
    · injection hz with hz
      subst hz
      have := World.cell?_setCells_in a.block [u] (a.off + (k * E.sz + i)) w hin 0 (by simp)
      rw [← hj]; exact this
    · cases hz
  · rw [if_neg hj] at hz
    have ho : a.off + j < a.off + (k * E.sz + i) ∨ a.off + (k * E.sz + i) + 1 ≤ a.off + j := by omega
    rw [World.cell?_setCells_out a.block [u] (a.off + (k * E.sz + i)) w _ (fun _ _ => by simpa using ho), ← add_at hsp]
    obtain ⟨a2, ha2, hc⟩ := h4 j z hz
    rw [← hp, ha] at ha2; cases ha2
    exact hc
end
end Go.Proofs.Ytkjpmkopnkkbmaa

/- A recording may be; a machine behind so many steps. No program in sight. -/
set_option maxRecDepth 100000
namespace Go.Proofs.Ytkjpmkopnkkbmaa
open Go.RowKit

theorem nextV_arg {s t : StV} {x : SnV} (h : nextV s = some (x, t)) (ha : arB x.cell = true) : s.ip + 1 < s.mem.length := by
  obtain ⟨h0, _, _, _, _, h5, h6, h7, h8, _, _⟩ := nextV_run h
  rw [h7] at ha
  rcases Int.lt_or_le (s.ip + 1) s.mem.length with g | g
  · exact g
  exfalso
  have hop : opArg (getI s.mem s.ip) = true := by
    unfold arB at ha
    cases ho : opArg (getI s.mem s.ip) with
    | true => rfl
    | false => rw [ho] at ha; simp at ha
  have hc := of_decide_eq_true (show decide _ = true from hop)
  have e : mStep { s with handler := 0 } = .bad (-9) false := by
    unfold mStep
    show (if s.ip < 0 ∨ (s.mem.length : Int) ≤ s.ip then Rs.bad (-9) false else
      if 64 ≤ getI s.mem s.ip then _ else if ¬ (0 ≤ getI s.mem s.ip ∧ getI s.mem s.ip < 48) then _ else
      if opArg (getI s.mem s.ip) = true ∧ (s.mem.length : Int) ≤ s.ip + 1 then Rs.bad (-9) false else _) = _
    rw [if_neg (by omega), if_neg (by omega), if_neg (by omega), if_pos ⟨hop, g⟩]
  have e1 : stepV { s with handler := 0 } = mAdv { s with handler := 0 } := stepV_go (s := { s with handler := 0 }) h0
  have e2 : (stepV { s with handler := 0 }).status = 2 := by
    rw [e1]; unfold mAdv; rw [e]
    show (mFault { s with handler := 0 } (-9)).status = 2
    unfold mFault mCaught
    rw [if_neg (by show ¬ ((3 : Int) ≤ 0 ∧ _); omega)]
  unfold nextV at h
  split at h
  · cases h
  first
  | cases h
  | (rw [if_pos e2] at h; cases h)
theorem nextV_single {s t : StV} {x : SnV} (ok : MOk s) (h : nextV s = some (x, t)) : singleB x = true := by
  obtain ⟨h0, _, _, h3, h4, h5, h6, h7, h8, h9, h10⟩ := nextV_run h
  have k3 := ok.me
  have ha := nextV_arg h
  have p1 : placeB x.ip = true := by unfold placeB; rw [h3, decide_eq_true h5, decide_eq_true (by omega)]; rfl
  have p3 : placeB x.next = true := by rw [h4]; exact h9
  unfold singleB
  rw [h8, p1, p3]
  cases hr : arB x.cell with
  | true =>
    have := ha hr
    have p2 : placeB (x.ip + 1) = true := by unfold placeB; rw [h3, decide_eq_true (by omega), decide_eq_true (by omega)]; rfl
    show (true && ((true || _) && (true && (placeB (if true = true then x.ip + 1 else x.ip) && true)))) = true
    rw [if_pos rfl, p2]; rfl
  | false =>
    rw [hr] at h10
    have h10 : x.arg = 0 := h10
    show (true && ((false || decide (x.arg = 0)) && (true && (placeB (if false = true then x.ip + 1 else x.ip) && true)))) = true
    rw [h10, if_neg (by decide), p1]; rfl
theorem rightL_snoc (start : Int) (x : SnV) : ∀ (l : List SnV) (a : Int) (m : Bool) (b : Int), rightL start a m l = some b → singleB x = true → x.ip = b → ((m = true ∨ l ≠ []) → x.ip ≠ start) → rightL start a m (l ++ [x]) = some x.next
  | [], a, m, b, h, h1, h2, h3 => by
    have h : some a = some b := h
    injection h with h
    show (if singleB x = false ∨ x.ip ≠ a ∨ (m = true ∧ x.ip = start) then none else some x.next) = _
    refine if_neg fun hb => ?_
    rcases hb with hb | hb | hb
    · rw [h1] at hb; cases hb
    · exact hb (by rw [h]; exact h2)
    · exact h3 (Or.inl hb.1) hb.2
  | y :: l, a, m, b, h, h1, h2, h3 => by
    have h : (if singleB y = false ∨ y.ip ≠ a ∨ (m = true ∧ y.ip = start) then none else rightL start y.next true l) = some b := h
    show (if singleB y = false ∨ y.ip ≠ a ∨ (m = true ∧ y.ip = start) then none else rightL start y.next true (l ++ [x])) = _
    split at h
    · cases h
    next hn =>
    rw [if_neg hn]
    exact rightL_snoc start x l y.next true b h h1 h2 fun _ => h3 (Or.inr (by simp))
theorem recL_right (start : Int) : ∀ (n : Nat) (s : StV) (l : List SnV), MOk s → l.length + n ≤ 120 → rightL start start false l = some s.ip → rightR (recL start n s l) = true := by
  have fin : ∀ (s : StV) (l : List SnV) (lp : Bool), l.length ≤ 120 → rightL start start false l = some s.ip → lp = lpB start s l → rightR ⟨start, s.ip, lp, l⟩ = true := fun s l lp hl hr hp => by
    unfold rightR
    rw [if_neg (by show ¬ 120 < l.length; omega), if_neg (by show ¬ lp ≠ _; rw [hp]; exact fun h => h rfl)]
    show (match rightL start start false l with | none => false | some a => decide (a = s.ip)) = true
    rw [hr]
    exact decide_eq_true rfl
  intro n
  induction n with
  | zero => intro s l ok hl hr; exact fin s l _ (by omega) hr rfl
  | succ n ih =>
    intro s l ok hl hr
    by_cases hp : lpB start s l = true
    · unfold recL; rw [if_pos hp]; exact fin s l true (by omega) hr hp.symm
    have hp' : lpB start s l = false := by simpa using hp
    cases hn : nextV s with
    | none => unfold recL; rw [if_neg hp, hn]; exact fin s l false (by omega) hr hp'.symm
    | some p =>
      obtain ⟨x, t⟩ := p
      have e1 : recL start (n + 1) s l = recL start n t (l ++ [x]) := by
        show (if lpB start s l = true then _ else match nextV s with | none => _ | some (x, t) => recL start n t (l ++ [x])) = _
        rw [if_neg hp, hn]
      obtain ⟨r0, r1, r2, r3, r4, _⟩ := nextV_run hn
      rw [e1]
      refine ih t (l ++ [x]) (by rw [r2]; exact mok_adv ok) (by rw [List.length_append, List.length_singleton]; omega) ?_
      rw [rightL_snoc start x l start false s.ip hr (nextV_single ok hn) r3 (fun h => ?_), r4]
      intro he
      rcases h with h | h
      · cases h
      · have : 0 < l.length := by cases l with | nil => exact absurd rfl h | cons => simp
        unfold lpB at hp'
        rw [decide_eq_true this, decide_eq_true (by rw [← r3]; exact he)] at hp'
        cases hp'
theorem recV_right {s : StV} (ok : MOk s) (most : Int) : rightR (recV s most) = true := by
  have := (mostN_le most).1
  exact recL_right s.ip (mostN most) s [] ok (by simpa using this) rfl
/-- So many steps, one by one. -/
def stI : Nat → StV → StV
  | 0, s => s
  | n + 1, s => stI n (if s.status = 0 then mAdv s else s)
theorem stI_run : ∀ (n : Nat) (s : StV), (mRun n s).1 = stI n s
  | 0, _ => rfl
  | n + 1, s => by
    show (if s.status = 0 then mRun n (mAdv s) else (s, n + 1)).1 = stI n _
    split
    · next h => exact stI_run n (mAdv s)
    · next h =>
      have : ∀ m, stI m s = s := by
        intro m
        induction m with
        | zero => rfl
        | succ m ih => show stI m (if s.status = 0 then _ else s) = s; rw [if_neg h]; exact ih
      exact (this n).symm
theorem runM_stI (s : StV) (n : Nat) : (runM s (n : Int)).1 = stI n s := by
  unfold runM
  rw [if_pos (by omega), Int.toNat_natCast]
  exact stI_run n s
end Go.Proofs.Ytkjpmkopnkkbmaa

/- Recordings that may be, as the document says (lines of L13R). -/
set_option maxRecDepth 100000
namespace Go.Proofs.Ytkjpmkopnkkbmaa
open Go.RowKit

/-! ### The document's own answer -/
/-- What is asked of a step, piece by piece. -/
def rT4 (b : Nat) (J : Bool → World → Prop) (w : World) : Prop :=
  ∃ n50 : Int, w.cell? ⟨b, 3, none⟩ = some (.int .i64 n50) ∧ brB (decide (n50 < (0 : Int))) (J true w) (∃ n51 : Int, w.cell? ⟨b, 3, none⟩ = some (.int .i64 n51) ∧ J (decide (n51 ≥ (3000 : Int))) w)
def rT3 (b : Nat) (J : Bool → World → Prop) (w : World) : Prop :=
  ∃ n43 : Int, w.cell? ⟨b, 0, none⟩ = some (.int .i64 n43) ∧ brB (decide (n43 < (0 : Int))) (J true w) (∃ n44 : Int, w.cell? ⟨b, 0, none⟩ = some (.int .i64 n44) ∧ brB (decide (n44 ≥ (3000 : Int))) (J true w)
    (∃ n45 : Int, w.cell? ⟨b, 1, none⟩ = some (.int .i64 n45) ∧ Calls Try.prog fn_hollowayref1_Arg #[.int .i64 n45] w fun e46 w47 => ∃ b48 : Bool, e46 = .returned (.bool b48) ∧
      brB b48 (∃ n49 : Int, w47.cell? ⟨b, 0, none⟩ = some (.int .i64 n49) ∧ brB (decide (n49 ≥ (2999 : Int))) (J true w47) (rT4 b J w47)) (rT4 b J w47)))
def rT2 (b : Nat) (J : Bool → World → Prop) (w : World) : Prop :=
  ∃ n38 : Int, w.cell? ⟨b, 2, none⟩ = some (.int .i64 n38) ∧ brB (n38 != (0 : Int)) (∃ n39 : Int, w.cell? ⟨b, 1, none⟩ = some (.int .i64 n39) ∧ Calls Try.prog fn_hollowayref1_Arg #[.int .i64 n39] w fun e40 w41 => ∃ b42 : Bool, e40 = .returned (.bool b42) ∧
    brB (!b42) (J true w41) (rT3 b J w41)) (rT3 b J w)
def rT1 (b : Nat) (J : Bool → World → Prop) (w : World) : Prop :=
  ∃ n33 : Int, w.cell? ⟨b, 1, none⟩ = some (.int .i64 n33) ∧ brB (decide (n33 < (64 : Int))) (∃ n34 : Int, w.cell? ⟨b, 1, none⟩ = some (.int .i64 n34) ∧ Calls Try.prog fn_hollowayref1_Plain #[.int .i64 n34] w fun e35 w36 => ∃ b37 : Bool, e35 = .returned (.bool b37) ∧
    brB (!b37) (J true w36) (rT2 b J w36)) (rT2 b J w)
theorem rT_ok {b : Nat} {x : SnV} {J : Bool → World → Prop} {w : World} (o : Ob w b (seC x) T_api_Seen) (yes : singleB x = false → J true w) (no : singleB x = true → J false w) : rT1 b J w := by
  have hs : singleB x = (plB x.cell && ((arB x.cell || decide (x.arg = 0)) && (placeB x.ip && (placeB (if arB x.cell = true then x.ip + 1 else x.ip) && placeB x.next)))) := rfl
  have t4 : plB x.cell = true → (arB x.cell || decide (x.arg = 0)) = true → placeB x.ip = true → placeB (if arB x.cell = true then x.ip + 1 else x.ip) = true → rT4 b J w := fun h1 h2 h3 h4 => by
    have e : singleB x = placeB x.next := by rw [hs, h1, h2, h3, h4]; rfl
    refine ⟨x.next, o.cell rfl, brB_of (fun h => ?_) (fun h => ⟨x.next, o.cell rfl, ?_⟩)⟩
    · have h := of_decide_eq_true h
      exact yes (by rw [e]; unfold placeB; rw [decide_eq_false (by omega)]; rfl)
    · have h := of_decide_eq_false h
      by_cases h5 : x.next ≥ 3000
      · rw [decide_eq_true h5]
        exact yes (by rw [e]; unfold placeB; rw [decide_eq_false (p := x.next < 3000) (by omega)]; simp)
      · rw [decide_eq_false h5]
        exact no (by rw [e]; unfold placeB; rw [decide_eq_true (p := 0 ≤ x.next) (by omega), decide_eq_true (p := x.next < 3000) (by omega)]; rfl)
  have ar64 : arB x.cell = opArg x.cell := by
    unfold arB
    by_cases h : x.cell < 64
    · rw [decide_eq_true h]; rfl
    · rw [decide_eq_false h]; unfold opArg; rw [decide_eq_false (by omega)]; rfl
  have t3 : plB x.cell = true → (arB x.cell || decide (x.arg = 0)) = true → rT3 b J w := fun h1 h2 => by
    refine ⟨x.ip, o.cell rfl, brB_of (fun h => ?_) (fun h => ⟨x.ip, o.cell rfl, brB_of (fun h' => ?_) (fun h' => ⟨x.cell, o.cell rfl, ?_⟩)⟩)⟩
    · have h := of_decide_eq_true h
      exact yes (by rw [hs, h1, h2]; unfold placeB; rw [decide_eq_false (p := 0 ≤ x.ip) (by omega)]; rfl)
    · have h' := of_decide_eq_true h'
      exact yes (by rw [hs, h1, h2]; unfold placeB; rw [decide_eq_false (p := x.ip < 3000) (by omega)]; simp)
    have h := of_decide_eq_false h
    have h' := of_decide_eq_false h'
    have h3 : placeB x.ip = true := by unfold placeB; rw [decide_eq_true (p := 0 ≤ x.ip) (by omega), decide_eq_true (p := x.ip < 3000) (by omega)]; rfl
    refine (refArg_any _ w).mono ?_
    rintro e w47 ⟨rfl, rfl⟩
    rw [← ar64]
    refine ⟨_, rfl, brB_of (fun ha => ⟨x.ip, o.cell rfl, brB_of (fun h5 => ?_) (fun h5 => ?_)⟩) (fun ha => ?_)⟩
    · have h5 := of_decide_eq_true h5
      exact yes (by rw [hs, h1, h2, h3, if_pos ha]; unfold placeB; rw [decide_eq_false (p := x.ip + 1 < 3000) (by omega)]; simp)
    · have h5 := of_decide_eq_false h5
      exact t4 h1 h2 h3 (by rw [if_pos ha]; unfold placeB; rw [decide_eq_true (p := 0 ≤ x.ip + 1) (by omega), decide_eq_true (p := x.ip + 1 < 3000) (by omega)]; rfl)
    · exact t4 h1 h2 h3 (by rw [if_neg (by rw [ha]; decide)]; exact h3)
  have t2 : plB x.cell = true → rT2 b J w := fun h1 => by
    refine ⟨x.arg, o.cell rfl, brB_of (fun h => ⟨x.cell, o.cell rfl, ?_⟩) (fun h => ?_)⟩
    · have h : x.arg ≠ 0 := by simpa using h
      refine (refArg_any _ w).mono ?_
      rintro e w41 ⟨rfl, rfl⟩
      rw [← ar64]
      refine ⟨_, rfl, brB_of (fun ha => ?_) (fun ha => ?_)⟩
      · have ha : arB x.cell = false := by simpa using ha
        exact yes (by rw [hs, h1, ha, decide_eq_false h]; rfl)
      · have ha : arB x.cell = true := by simpa using ha
        exact t3 h1 (by rw [ha]; rfl)
    · have h : x.arg = 0 := by simpa using h
      exact t3 h1 (by rw [decide_eq_true h]; simp)
  refine ⟨x.cell, o.cell rfl, brB_of (fun h => ⟨x.cell, o.cell rfl, ?_⟩) (fun h => ?_)⟩
  · have h := of_decide_eq_true h
    have hp : plB x.cell = opPlain x.cell := by unfold plB; rw [decide_eq_false (by omega)]; rfl
    refine (refPlain_any _ w).mono ?_
    rintro e w36 ⟨rfl, rfl⟩
    rw [← hp]
    refine ⟨_, rfl, brB_of (fun ha => ?_) (fun ha => ?_)⟩
    · have ha : plB x.cell = false := by simpa using ha
      exact yes (by rw [hs, ha]; rfl)
    · exact t2 (by simpa using ha)
  · have h := of_decide_eq_false h
    exact t2 (by unfold plB; rw [decide_eq_true (by omega)]; rfl)
theorem recorded_any {w : World} (R : RcC) {r : RcV} (hnum : R.start = r.start ∧ R.fin = r.fin ∧ R.loop = r.loop) (hst : Rd seE w R.steps r.steps) :
    Calls Try.prog fn_hollowayref9_Recorded #[.agg (rcC R).toArray] w fun e w' => e = .returned (.bool (rightR r)) ∧ Chg No w w' := by
  refine (hollowayref9_Recorded_lift (K := fun v w' => v = .bool (rightR r) ∧ Chg No w w') ?_).mono (by rintro e w' ⟨v, rfl, rfl, h⟩; exact ⟨rfl, h⟩)
  unfold hollowayref9_Recorded_sh
  obtain ⟨m1, m2, m3⟩ := hnum
  have hl := hst.len
  refine inRc R fun b5 w6 hb5 z6 o6 c6 => ⟨R.steps, o6.cell rfl, ?_⟩
  obtain ⟨bad, hbad⟩ : ∃ bad : Prop, bad = (120 < r.steps.length ∨ r.loop ≠ (decide (0 < r.steps.length) && decide (r.fin = r.start)) ∨ (r.steps.length = 0 ∧ r.fin ≠ r.start)) := ⟨_, rfl⟩
  have hf : bad → rightR r = false := fun hb => by
    rw [hbad] at hb
    unfold rightR
    by_cases h1 : 120 < r.steps.length
    · rw [if_pos h1]
    · rw [if_neg h1]
      by_cases h2 : r.loop ≠ (decide (0 < r.steps.length) && decide (r.fin = r.start))
      · rw [if_pos h2]
      · rw [if_neg h2]
        rcases hb with hb | hb | ⟨hb, hb'⟩
        · exact absurd hb h1
        · exact absurd hb h2
        · have : r.steps = [] := List.length_eq_zero_iff.1 hb
          rw [this]
          show decide (r.start = r.fin) = false
          exact decide_eq_false (fun h => hb' h.symm)
  refine ⟨fun b w' => (b = true → bad) ∧ (b = false → ¬ bad) ∧ w' = w6, ?_, ?_⟩
  rotate_left
  · refine brB_of (fun h1 => ?_) (fun h1 => ⟨R.loop, o6.cell rfl, brB_of (fun h2 => ⟨R.fin, o6.cell rfl, R.start, o6.cell rfl, ?_⟩) (fun h2 => ?_)⟩)
    · have h1 := of_decide_eq_true h1
      exact ⟨fun _ => by rw [hbad]; left; omega, (fun h => by cases h), rfl⟩
    · have h1 := of_decide_eq_false h1
      have h2 := of_decide_eq_true h2
      have e : (!(R.loop == (R.fin == R.start))) = true ↔ r.loop ≠ (decide (0 < r.steps.length) && decide (r.fin = r.start)) := by
        rw [m1, m2, m3, decide_eq_true (show 0 < r.steps.length by omega)]
        show (!(r.loop == decide (r.fin = r.start))) = true ↔ r.loop ≠ (true && decide (r.fin = r.start))
        cases r.loop <;> cases decide (r.fin = r.start) <;> simp
      refine brB_of (fun h => ⟨fun _ => by rw [hbad]; exact Or.inr (Or.inl (e.1 h)), (fun h => by cases h), rfl⟩) (fun h => brB_of (fun h3 => ?_) (fun h3 => ⟨(fun h => by cases h), fun _ hb => ?_, rfl⟩))
      · have : (R.steps.len : Int) = 0 := by simpa using h3
        omega
      · rw [hbad] at hb
        rcases hb with hb | hb | ⟨hb, _⟩
        · omega
        · rw [e.2 hb] at h; cases h
        · omega
    · have h1 := of_decide_eq_false h1
      have h2 := of_decide_eq_false h2
      have e : (!(R.loop == false)) = true ↔ r.loop ≠ (decide (0 < r.steps.length) && decide (r.fin = r.start)) := by
        rw [m3, decide_eq_false (show ¬ 0 < r.steps.length by omega)]
        cases r.loop <;> simp
      refine brB_of (fun h => ⟨fun _ => by rw [hbad]; exact Or.inr (Or.inl (e.1 h)), (fun h => by cases h), rfl⟩) (fun h => brB_of (fun h3 => ⟨R.fin, o6.cell rfl, R.start, o6.cell rfl, ?_⟩) (fun h3 => ?_))
      · refine ⟨fun hn => ?_, fun hn hb => ?_, rfl⟩
        · rw [hbad]
          refine Or.inr (Or.inr ⟨by omega, ?_⟩)
          rw [← m1, ← m2]; simpa using hn
        · rw [hbad] at hb
          rcases hb with hb | hb | ⟨_, hb⟩
          · omega
          · rw [e.2 hb] at h; cases h
          · rw [← m1, ← m2] at hb
            have hn : R.fin = R.start := by simpa using hn
            exact hb hn
      · have : ¬ (R.steps.len : Int) = 0 := by simpa using h3
        omega
  rintro b w15 ⟨hb1, hb2, rfl⟩
  refine brB_of (fun hb => ⟨by rw [hf (hb1 hb)], c6⟩) (fun hb => ⟨R.start, o6.cell rfl, ?_⟩)
  have hgood := hb2 hb
  rw [hbad] at hgood
  have h120 : r.steps.length ≤ 120 := by
    rcases Nat.lt_or_ge 120 r.steps.length with h | h
    · exact absurd (Or.inl h) hgood
    · exact h
  have hrr : rightR r = match rightL r.start r.start false r.steps with
      | none => false
      | some a => decide (a = r.fin) := by
    unfold rightR; rw [if_neg (by omega), if_neg (fun h => hgood (Or.inr (Or.inl h)))]
    all_goals (cases rightL r.start r.start false r.steps <;> rfl)
  rw [m1]
  refine ⟨fun a n w' => ∃ j : Nat, n = j ∧ j ≤ r.steps.length ∧ rightL r.start r.start false r.steps = rightL r.start a (decide (0 < j)) (r.steps.drop j) ∧ Chg No w15 w', fun _ n _ => r.steps.length - n.toNat, ⟨0, rfl, Nat.zero_le _, rfl, Chg.refl _ _⟩, ?_⟩
  rintro a n w16 ⟨j, rfl, hj, hrl, c16⟩
  have k16 := trN c6 c16
  refine brB_of (fun hlt => ⟨R.steps, (o6.no c16).cell rfl, ?_⟩) (fun hge => ?_)
  · have hlt : j < r.steps.length := by have := of_decide_eq_true hlt; omega
    obtain ⟨x, hx⟩ : ∃ x, r.steps[j]? = some x := ⟨_, List.getElem?_eq_getElem hlt⟩
    have hxj : r.steps[j] = x := by rw [List.getElem?_eq_getElem hlt] at hx; exact Option.some.inj hx
    refine (hst.no k16).ix (i := (j : Int)) (by omega) (by rw [Int.toNat_natCast]; exact hx) fun ad _ hcell => ?_
    have q0 := hcell 0 _ rfl
    rw [add0] at q0
    refine ⟨x.ip, x.cell, x.arg, x.next, q0, hcell 1 _ rfl, hcell 2 _ rfl, hcell 3 _ rfl, varSn x fun b23 w25 hb23 z25 o23 c25 => ?_⟩
    obtain ⟨bd, hbd⟩ : ∃ bd : Prop, bd = (singleB x = false ∨ x.ip ≠ a ∨ (decide (0 < j) = true ∧ x.ip = r.start)) := ⟨_, rfl⟩
    have hstep : rightL r.start a (decide (0 < j)) (r.steps.drop j) = if singleB x = false ∨ x.ip ≠ a ∨ (decide (0 < j) = true ∧ x.ip = r.start) then none else rightL r.start x.next true (r.steps.drop (j + 1)) := by
      rw [List.drop_eq_getElem_cons hlt, hxj]; rfl
    refine ⟨fun b w' => (b = true → bd) ∧ (b = false → ¬ bd) ∧ w' = w25, ?_, ?_⟩
    · rintro b w37 ⟨hd1, hd2, rfl⟩
      have k37 := trN k16 c25
      refine brB_of (fun hb => ⟨?_, k37⟩) (fun hb => ⟨x.next, o23.cell rfl, ?_⟩)
      · have := hd1 hb
        rw [hbd] at this
        rw [hrr, hrl, hstep, if_pos this]
      · have := hd2 hb
        rw [hbd] at this
        rw [wr_in (by omega)]
        refine ⟨⟨j + 1, by omega, by omega, ?_, trN c16 c25⟩, by show r.steps.length - Int.toNat ((j : Int) + 1) < r.steps.length - Int.toNat (j : Int); omega⟩
        rw [hrl, hstep, if_neg this, decide_eq_true (by omega)]
    · refine ⟨x.ip, o23.cell rfl, brB_of (fun h2 => ?_) (fun h2 => brB_of (fun h3 => ⟨x.ip, o23.cell rfl, R.start, ((o6.no c16).no c25).cell rfl, brB_of (fun h4 => ?_) (fun h4 => ?_)⟩) (fun h3 => ?_))⟩
      · have h2 : x.ip ≠ a := by simpa using h2
        exact ⟨fun _ => by rw [hbd]; exact Or.inr (Or.inl h2), (fun h => by cases h), rfl⟩
      · have h3 : 0 < j := by have := of_decide_eq_true h3; omega
        have h4 : x.ip = R.start := by simpa using h4
        exact ⟨fun _ => by rw [hbd]; exact Or.inr (Or.inr ⟨decide_eq_true h3, by rw [h4, m1]⟩), (fun h => by cases h), rfl⟩
      · have h2 : x.ip = a := by simpa using h2
        have h4 : ¬ x.ip = R.start := by simpa using h4
        refine rT_ok (J := fun b w' => (b = true → bd) ∧ (b = false → ¬ bd) ∧ w' = w25) o23 (fun h1 => ⟨fun _ => by rw [hbd]; exact Or.inl h1, (fun h => by cases h), rfl⟩) (fun h1 => ⟨(fun h => by cases h), fun _ hb => ?_, rfl⟩)
        rw [hbd] at hb
        rcases hb with hb | hb | ⟨_, hb⟩
        · rw [h1] at hb; cases hb
        · exact hb h2
        · exact h4 (by rw [hb, m1])
      · have h2 : x.ip = a := by simpa using h2
        have h3 : ¬ 0 < j := by have := of_decide_eq_false h3; omega
        refine rT_ok (J := fun b w' => (b = true → bd) ∧ (b = false → ¬ bd) ∧ w' = w25) o23 (fun h1 => ⟨fun _ => by rw [hbd]; exact Or.inl h1, (fun h => by cases h), rfl⟩) (fun h1 => ⟨(fun h => by cases h), fun _ hb => ?_, rfl⟩)
        rw [hbd] at hb
        rcases hb with hb | hb | ⟨hb, _⟩
        · rw [h1] at hb; cases hb
        · exact hb h2
        · exact h3 (of_decide_eq_true hb)
  · have hge : j = r.steps.length := by have := of_decide_eq_false hge; omega
    subst hge
    refine ⟨R.fin, (o6.no c16).cell rfl, ?_, k16⟩
    rw [hrr, hrl, List.drop_length, m2]
    show Value.bool (a == r.fin) = .bool (decide (a = r.fin))
    congr 1
end Go.Proofs.Ytkjpmkopnkkbmaa

/- BuildStops: the walk. -/
set_option maxRecDepth 100000
namespace Go.Proofs.Ytkjpmkopnkkbmaa
open Go.RowKit

theorem mod_n (x : Int) {n : Nat} (h0 : 0 < n) (h1 : n ≤ 1000000) : ∃ r : Nat, r < n ∧ Int.tmod (wr (Int.tmod x n + n)) n = (r : Int) := by
  have h3 := Int.tmod_lt_of_pos x (show (0 : Int) < n by omega)
  have h4 : -(n : Int) < Int.tmod x n := Int.lt_tmod_of_pos x (by omega)
  rw [wr_in (by omega)]
  have h5 := Int.tmod_lt_of_pos (Int.tmod x n + n) (show (0 : Int) < n by omega)
  have h6 := Int.tmod_nonneg n (show 0 ≤ Int.tmod x n + n by omega)
  exact ⟨(Int.tmod (Int.tmod x n + n) n).toNat, by omega, by omega⟩
theorem varTr {w : World} (t : TrP) {G : Nat → World → Prop} (k : ∀ b w', b = w.heap.size → Ob w' b (trP t) T_api_Trace → Chg No w w' → G b w') : ∀ (b : Nat) (w1 : World), b = w.heap.size → w1 = World.alloc w (.cells (trP tr0).toArray T_api_Trace) → wrOk w1 ⟨b, 0, none⟩ 9 ∧ ∀ w2 : World, w2 = stW w1 ⟨b, 0, none⟩ 0 (trP t) → G b w2 := fun b w1 hb hw => by
  have hn := fun (w2 : World) => newOb (w2 := w2) (T := T_api_Trace) (trP tr0) (trP t) rfl hb hw
  refine ⟨(hn w1).1, fun w2 hw2 => ?_⟩
  obtain ⟨o, c⟩ := (hn w2).2 hw2
  exact k b w2 hb o c
set_option maxHeartbeats 1000000 in
theorem buildStops_walk {w : World} (S : StC) {s : StV} (h : StIs (fun _ => True) w S s) (hi : SIn s) (hinp : s.inp.size ≤ 9223372036854775807) (most at_ v : Int) :
    Calls Try.prog fn_hollowaylaw16_BuildStops #[.agg (stC S).toArray, .int .i64 most, .int .i64 at_, .int .i64 v] w fun e w' => e = .returned (.bool true) ∧ Chg No w w' := by
  refine (hollowaylaw16_BuildStops_lift (K := fun v w' => v = .bool true ∧ Chg No w w') ?_).mono (by rintro e w' ⟨v, rfl, rfl, h⟩; exact ⟨rfl, h⟩)
  unfold hollowaylaw16_BuildStops_sh
  obtain ⟨m1, m2, m3, m4, m5, m6, m7⟩ := h.nums
  refine inSt S fun b14 w15 hb14 z15 o14 c15 => ?_
  obtain ⟨s2, hs2⟩ : ∃ s2 : StV, s2 = { s with status := 0 } := ⟨_, rfl⟩
  obtain ⟨S2, hS2⟩ : ∃ S2 : StC, S2 = { S with status := 0 } := ⟨_, rfl⟩
  refine setSt S2 o14 (by decide) rfl (by rw [hS2]; rfl) fun w16 o16 c16 => ?_
  have k16 : Chg No w w16 := c15.trans c16 (fun _ _ h => h) (fun k hk he => by omega)
  have h2 : StIs (fun _ => True) w S2 s2 := by rw [hS2, hs2]; exact ⟨⟨m1, m2, m3, m4, m5, rfl, m7⟩, h.st, h.bk, h.me, h.stD, h.bkD, h.meD⟩
  have hi2 : SIn s2 := by rw [hs2]; exact ⟨hi.st, hi.bk, hi.me, hi.ha⟩
  have hin2 : s2.inp.size ≤ 9223372036854775807 := by rw [hs2]; exact hinp
  refine ⟨fun b w' => (b = false → RightS s2) ∧ Chg No w16 w', ?_, S2.mem, o16.cell rfl, brB_of (fun _ => ⟨(fun h => by cases h), Chg.refl _ _⟩) (fun _ => rdSt o16 ?_)⟩
  rotate_left
  · refine (r9right_any S2 (h2.no k16)).mono ?_
    rintro _ w29 ⟨b, rfl, hb, c29⟩
    refine ⟨b, rfl, brB_of (fun _ => ⟨(fun h => by cases h), c29⟩) (fun hf => ?_)⟩
    refine alive16_any.mono ?_
    rintro _ w32 ⟨rfl, c32⟩
    exact ⟨true, rfl, fun _ => hb.1 (by simpa using hf), trN c29 c32⟩
  rintro b w34 ⟨hb, c34⟩
  have k34 := trN k16 c34
  refine brB_of (fun _ => ?_) (fun hf => ?_)
  · refine alive16_any.mono ?_
    rintro _ w37 ⟨rfl, c37⟩
    exact ⟨true, rfl, rfl, trN k34 c37⟩
  have rs := hb hf
  have ok : MOk s2 := MOk.of rs hin2
  refine rdSt (o16.no c34) ((rrecord_any S2 (h2.no k34) ok hi2 most).mono ?_)
  rintro _ w50 ⟨R, rfl, hR, c50⟩
  have k50 := trN k34 c50
  have hright := recV_right ok most
  obtain ⟨r, hr⟩ : ∃ r : RcV, r = recV s2 most := ⟨_, rfl⟩
  rw [← hr] at hR hright
  obtain ⟨h120, hrl, hall⟩ := rightR_of hright
  have hins : ∀ x ∈ r.steps, Cn.In x.ip := fun x hx => by
    obtain ⟨_, q, _⟩ := sing_of (hall x hx)
    unfold Cn.In; omega
  have hnum := hR.nums
  refine ⟨_, _, _, _, rfl, varRc R fun b55 w57 hb55 z57 o57 c57 => ⟨R.steps, o57.cell rfl, ?_⟩⟩
  have k57 := trN k50 c57
  have hst := (hR.steps.no c57).rd
  have hl := hst.len
  refine brB_of (fun h0 => ?_) (fun h0 => ?_)
  · have h0 : (R.steps.len : Int) = 0 := by simpa using h0
    have hnil : r.steps = [] := List.length_eq_zero_iff.1 (by omega)
    refine rdRc o57 ((trace_any R hnum hst hins).mono ?_)
    rintro _ w64 ⟨_, rfl, t, okk, rfl, c64, hno, hyes⟩
    have hok : okk = false := by
      cases okk with
      | false => rfl
      | true => exact absurd hnil (hyes rfl).1.some
    refine ⟨t.start, t.slots, t.backs, t.grow, t.growBack, t.ins, t.outs, t.last, t.cells, okk, rfl, varTr t fun b75 w77 hb75 o77 c77 => ?_⟩
    have k77 := trN (trN k57 c64) c77
    refine rdRc ((o57.no c64).no c77) ((bneeds_any R hnum (hst.no (trN c64 c77)) hins).mono ?_)
    rintro _ w83 ⟨rfl, c83⟩
    rw [if_pos hright, hnil, hok]
    exact ⟨0, 0, 0, 0, rfl, brB_t ⟨rfl, trN k77 c83⟩⟩
  have h0 : (R.steps.len : Int) ≠ 0 := by simpa using h0
  have lpos : 0 < r.steps.length := by omega
  obtain ⟨i, hi1, hi2⟩ := mod_n at_ lpos (by omega)
  intro w90 hw90
  have c90 := dw hw90
  have o90 := o57.no c90
  have hs : ∀ {u : Value} {k : Nat}, (rcC R)[k]? = some u → held (Lw w90) ⟨b55, k, none⟩ u := fun hk w' hw' => by rw [hw']; exact o90.cell hk
  refine ⟨R.steps, hs rfl, h0, R.steps, hs rfl, R.steps, hs rfl, h0, rdRc o90 (varRc R fun b98 w100 hb98 z100 o98 c100 => ?_)⟩
  have k100 := trN (trN k57 c90) c100
  have hst100 := (hst.no c90).no c100
  refine ⟨R.steps, ((o90.no c100)).cell rfl, ?_⟩
  obtain ⟨at', hat⟩ : ∃ at', R.steps.ptr = some at' := by
    cases hp : R.steps.ptr with
    | some a => exact ⟨a, rfl⟩
    | none => obtain ⟨ao, cap, e0, _, _, e3, _⟩ := hst100
              have : R.steps.ptr = ao := by cases hh : R.steps; rw [hh] at e0; simp [Sl.val] at e0; exact e0.1
              rw [← this, hp] at e3
              have := (e3 rfl).1
              omega
  refine appx_ok seOk (s := nilS) (t := R.steps) rfl rfl (Ox.nil _ _) hst100 hat (fun _ hne => by rw [hne] at lpos; exact absurd lpos (by decide)) (by show (0 + r.steps.length) * 32 ≤ _; omega) (by show 0 + r.steps.length ≤ _; unfold maxLen; omega) ?_
  intro s102 w103 hx103 c103 b103 _
  rw [List.nil_append] at hx103
  have c103' : Chg No w100 w103 := c103.trans (Chg.refl No _) (fun k hk he => by cases he) (fun _ _ h => h)
  have new : ∀ k, s102.blk = some k → w100.heap.size ≤ k := fun k hk => by
    rcases b103 with hh | hh
    · rw [hh] at hk; cases hk
    · exact hh k hk
  refine setRc ⟨R.start, R.fin, R.loop, s102⟩ (o98.no c103') (by decide) rfl rfl fun w104 o104 c104 => ?_
  have z103 := c103'.size
  have l98 := o98.lt
  have hx104 := hx103.chg c104 (fun k hk he => by have := new k hk; omega)
  have k104 : Chg No w w104 := (trN k100 c103').trans c104 (fun _ _ h => h) (fun k hk he => by have := k57.size; have := c90.size; omega)
  have hl102 := hx104.rd.len
  obtain ⟨x, hx⟩ : ∃ x, r.steps[i]? = some x := ⟨_, List.getElem?_eq_getElem hi1⟩
  obtain ⟨a106, ha106⟩ : ∃ a, s102.ptr = some a := by
    cases hp : s102.ptr with
    | some a => exact ⟨a, rfl⟩
    | none => obtain ⟨ao, cap, e0, _, _, e3, _⟩ := hx104.rd
              have : s102.ptr = ao := by cases hh : s102; rw [hh] at e0; simp [Sl.val] at e0; exact e0.1
              rw [← this, hp] at e3
              have := (e3 rfl).1
              omega
  rw [hl, hi2]
  obtain ⟨f1, f2⟩ := hx104.set1 ha106 (i := 3) hi1 hx (by decide) (x' := ⟨x.ip, x.cell, x.arg, v⟩) (u := .int .i64 v) rfl
  refine ⟨s102, o104.cell rfl, a106, ha106, by omega, by omega, by rw [Int.toNat_natCast]; exact f1, fun w107 hw107 => ?_⟩
  rw [Int.toNat_natCast] at hw107
  have hst107 : Rd seE w107 s102 (r.steps.set i ⟨x.ip, x.cell, x.arg, v⟩) := by rw [hw107]; exact f2
  have hblk : s102.blk = some a106.block := blk_ptr ha106
  have c107 : Chg (fun j => s102.blk = some j) w104 w107 := by
    rw [hw107]; exact Chg.st (S := fun j => s102.blk = some j) (by rw [add_block, add_block]; exact hblk)
  have o107 := o104.chg c107 (fun he => by have := new _ he; omega)
  have k107 : Chg No w w107 := k104.trans c107 (fun _ _ h => h) (fun k hk he => by have := new k he; have := k100.size; omega)
  obtain ⟨r', hr'⟩ : ∃ r' : RcV, r' = ⟨r.start, r.fin, r.loop, r.steps.set i ⟨x.ip, x.cell, x.arg, v⟩⟩ := ⟨_, rfl⟩
  have hst' : Rd seE w107 s102 r'.steps := by rw [hr']; exact hst107
  have hnum' : (⟨R.start, R.fin, R.loop, s102⟩ : RcC).start = r'.start ∧ (⟨R.start, R.fin, R.loop, s102⟩ : RcC).fin = r'.fin ∧ (⟨R.start, R.fin, R.loop, s102⟩ : RcC).loop = r'.loop := by rw [hr']; exact hnum
  have hins' : ∀ y ∈ r'.steps, Cn.In y.ip := fun y hy => by
    rw [hr'] at hy
    rcases List.mem_or_eq_of_mem_set hy with hy | hy
    · exact hins y hy
    · rw [hy]; exact hins x (List.mem_of_getElem? hx)
  refine rdRc o107 ((trace_any ⟨R.start, R.fin, R.loop, s102⟩ hnum' hst' hins').mono ?_)
  rintro _ w113 ⟨_, rfl, t, okk, rfl, c113, hno, hyes⟩
  refine ⟨t.start, t.slots, t.backs, t.grow, t.growBack, t.ins, t.outs, t.last, t.cells, okk, rfl, varTr t fun b124 w126 hb124 o126 c126 => ?_⟩
  have k126 := trN (trN k107 c113) c126
  have q126 := (o107.no c113).no c126
  have hst126 := hst'.no (trN c113 c126)
  refine rdRc q126 ((recorded_any ⟨R.start, R.fin, R.loop, s102⟩ hnum' hst126).mono ?_)
  rintro _ w132 ⟨rfl, c132⟩
  have k132 := trN k126 c132
  have o132 := o126.no c132
  refine ⟨_, rfl, brB_of (fun hrr => ?_) (fun hrr => ?_)⟩
  · have hrr : rightR r' = false := by simpa using hrr
    cases okk with
    | true => have := (hyes rfl).1.right; rw [hrr] at this; cases this
    | false =>
      obtain ⟨rfl, _⟩ := hno rfl
      exact brB_t ⟨nilS, o132.cell rfl, nilS, o132.cell rfl, rfl, k132⟩
  · cases okk with
    | false => exact brB_t ⟨rfl, k132⟩
    | true =>
      obtain ⟨ft, tv, ht, hv, hh⟩ := hyes rfl
      refine brB_f ⟨t.start, t.slots, t.backs, t.grow, t.growBack, t.ins, t.outs, t.last, t.cells, o132.cell rfl, o132.cell rfl, o132.cell rfl, o132.cell rfl, o132.cell rfl, o132.cell rfl, o132.cell rfl, o132.cell rfl, o132.cell rfl, rdRc (q126.no c132) ?_⟩
      refine (frame_any t ⟨R.start, R.fin, R.loop, s102⟩ (ht.no (trN c126 c132)) hv hh ft hnum' (hst126.no c132)).mono ?_
      rintro _ w152 ⟨rfl, c152⟩
      exact ⟨true, rfl, rfl, trN k132 c152⟩
end Go.Proofs.Ytkjpmkopnkkbmaa

/- BuildStops: of a machine as the frame tells of it. -/
set_option maxRecDepth 100000
namespace Go.Proofs.Ytkjpmkopnkkbmaa
open Go.RowKit

theorem buildStops_q {w : World} (S : StC) (q : ∃ s : StV, StIs (fun _ => True) w S s ∧ (∀ x ∈ s.stack, Cn.In x) ∧ (∀ x ∈ s.back, Cn.In x) ∧ (∀ x ∈ s.mem, Cn.In x) ∧ Cn.In s.handler ∧ s.inp.size ≤ 9223372036854775807) (most at_ v : Int) :
    Calls Try.prog fn_hollowaylaw16_BuildStops #[.agg (stC S).toArray, .int .i64 most, .int .i64 at_, .int .i64 v] w fun e w' => e = .returned (.bool true) ∧ Chg No w w' := by
  obtain ⟨s, hs, h1, h2, h3, h4, h5⟩ := q
  exact buildStops_walk S hs ⟨h1, h2, h3, h4⟩ h5 most at_ v
end Go.Proofs.Ytkjpmkopnkkbmaa

/- A machine, as a statement's frame tells of it; its input no longer than may be. -/
set_option maxRecDepth 100000
namespace Go.Proofs.Ytkjpmkopnkkbmaa
open Go.RowKit Go.WideShapes

theorem state_openB {H : Type} (enc : TypeId × Value → H) (W : World) {v : Value} {d : DataW H} {p : List MemPlace} (hv : Value.okWide Try.prog W .any 0 T_api_State v) (h : DataW.Trod enc Try.prog W 0 (fun _ => true) true T_api_State v d p) :
    ∃ S : StC, v = .agg (stC S).toArray ∧ ∃ s : StV, StIs (fun _ => True) W S s ∧ (∀ x ∈ s.stack, Cn.In x) ∧ (∀ x ∈ s.back, Cn.In x) ∧ (∀ x ∈ s.mem, Cn.In x) ∧ Cn.In s.handler ∧ s.inp.size ≤ 9223372036854775807 := by
  obtain ⟨cs, rfl, hsz⟩ := okWide_struct Try.underlying24 hv
  obtain ⟨n, hn⟩ := h
  obtain ⟨_, m, hf⟩ := open_fields Try.underlying24 hn
  have hcc : Try.prog.cellsOf T_api_State = 10 := by kernel_rfl
  rw [hcc] at hsz
  obtain ⟨l, rfl⟩ : ∃ l : List Value, cs = l.toArray := ⟨cs.toList, by simp⟩
  have hl : l.length = 10 := by simpa using hsz
  obtain ⟨c0, c1, c2, c3, c4, c5, c6, c7, c8, c9, rfl⟩ : ∃ c0 c1 c2 c3 c4 c5 c6 c7 c8 c9, l = [c0, c1, c2, c3, c4, c5, c6, c7, c8, c9] := by
    match l, hl with
    | [c0, c1, c2, c3, c4, c5, c6, c7, c8, c9], _ => exact ⟨_, _, _, _, _, _, _, _, _, _, rfl⟩
  have s1 : Try.prog.cellsOf 3 = 1 := by kernel_rfl
  have s2 : Try.prog.cellsOf 22 = 1 := by kernel_rfl
  have s3 : Try.prog.cellsOf 9 = 1 := by kernel_rfl
  obtain ⟨z0, h0⟩ := hf 0 _ rfl
  obtain ⟨z1, h1⟩ := hf 1 _ rfl
  obtain ⟨z2, h2⟩ := hf 2 _ rfl
  obtain ⟨z3, h3⟩ := hf 3 _ rfl
  obtain ⟨z4, h4⟩ := hf 4 _ rfl
  obtain ⟨z5, h5⟩ := hf 5 _ rfl
  obtain ⟨z6, h6⟩ := hf 6 _ rfl
  obtain ⟨z7, h7⟩ := hf 7 _ rfl
  obtain ⟨z8, h8⟩ := hf 8 _ rfl
  obtain ⟨z9, h9⟩ := hf 9 _ rfl
  obtain ⟨x0, e0, _⟩ := DataW.trod_int Try.underlying3 h0
  obtain ⟨x1, e1, _, hw1⟩ := DataW.trod_int Try.underlying3 h1
  have hw1 : I64 x1 := hw1
  obtain ⟨q2, l2, e2, r2, i2⟩ := open_cells Try.underlying22 (int_open enc W 0 (fun _ => true) true) h2
  obtain ⟨q3, l3, e3, r3, i3⟩ := open_cells Try.underlying22 (int_open enc W 0 (fun _ => true) true) h3
  obtain ⟨q4, l4, e4, r4, i4⟩ := open_cells Try.underlying22 (int_open enc W 0 (fun _ => true) true) h4
  obtain ⟨x5, e5, _⟩ := DataW.trod_string Try.underlying9 h5
  obtain ⟨x6, e6, _, hw6⟩ := DataW.trod_string Try.underlying9 h6
  obtain ⟨x7, e7, _⟩ := DataW.trod_int Try.underlying3 h7
  obtain ⟨x8, e8, _⟩ := DataW.trod_int Try.underlying3 h8
  obtain ⟨x9, e9, _⟩ := DataW.trod_int Try.underlying3 h9
  simp [Value.cells, s1, s2, s3] at e0 e1 e2 e3 e4 e5 e6 e7 e8 e9
  exact ⟨⟨x0, x1, q2, q3, q4, x5, x6, x7, x8, x9⟩, by rw [e0, e1, e2, e3, e4, e5, e6, e7, e8, e9]; rfl, ⟨x0, x1, l2, l3, l4, x5, x6, x7, x8, x9⟩, ⟨⟨rfl, rfl, rfl, rfl, rfl, rfl, rfl⟩, r2, r3, r4, fun _ _ => trivial, fun _ _ => trivial, fun _ _ => trivial⟩, i2, i3, i4, hw1.le, hw6⟩
end Go.Proofs.Ytkjpmkopnkkbmaa
