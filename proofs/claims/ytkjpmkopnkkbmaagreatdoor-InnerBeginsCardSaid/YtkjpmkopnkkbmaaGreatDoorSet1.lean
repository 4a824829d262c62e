/- One cell of one element of a list written. -/
import Derived.Test.YtkjpmkopnkkbmaaGreatDoorOx
set_option maxRecDepth 100000
namespace Go.Proofs.YtkjpmkopnkkbmaaGreatDoor
open Go.RowKit

variable {α : Type}
theorem fl_set (E : Enc α) : ∀ (xs : List α) (k j : Nat) (x x' : α) (u : Value), xs[k]? = some x → j < E.sz → E.e x' = (E.e x).set j u → fl E (xs.set k x') = (fl E xs).set (k * E.sz + j) u
  | [], k, j, x, x', u, h, _, _ => by simp at h
  | y :: ys, 0, j, x, x', u, h, hj, he => by
    have hy : y = x := by simpa using h
    subst hy
    rw [List.set_cons_zero, fl_cons, fl_cons, he, Nat.zero_mul, Nat.zero_add, List.set_append_left _ _ (by rw [E.len]; exact hj)]
  | y :: ys, k + 1, j, x, x', u, h, hj, he => by
    have := fl_set E ys k j x x' u (by simpa using h) hj he
    rw [List.set_cons_succ, fl_cons, fl_cons, this, List.set_append_right _ _ (by rw [E.len, Nat.succ_mul]; omega), E.len]
    congr 2
    rw [Nat.succ_mul]; omega
/-- One cell of one element written. -/
theorem Ow.set1 {E : Enc α} {w : World} {s : Sl} {xs : List α} (h : Ow E w s xs) {a : Addr} (ha : s.ptr = some a) {k j : Nat} {x x' : α} {u : Value} (hx : xs[k]? = some x) (hj : j < E.sz) (he : E.e x' = (E.e x).set j u) :
    wrOk w ((a.add (k * E.sz)).add j) 1 ∧ Ow E (stW w ((a.add (k * E.sz)).add j) 0 [u]) s (xs.set k x') := by
  have hox := h.ox
  obtain ⟨hsp, hrm⟩ := hox.room a ha
  have hcap := h.rd.capL
  have hk : k < xs.length := (List.getElem?_eq_some_iff.1 hx).1
  have hmul : (k + 1) * E.sz ≤ s.cap * E.sz := Nat.mul_le_mul_right _ (by omega)
  rw [Nat.succ_mul] at hmul
  refine ⟨fun i hi => ?_, ?_⟩
  · have hi0 : i = 0 := by omega
    subst hi0
    rw [add_add, add_add, Nat.add_zero]
    obtain ⟨h1, h2⟩ := hrm (k * E.sz + j) (by omega)
    exact ⟨Option.isSome_iff_exists.1 h1, h2⟩
  · obtain ⟨hl, hr⟩ := h
    rcases hr with ⟨h1, _⟩ | ⟨g, cap, cur, h1, hbg, hg, hnc, hcm, hcs, htake⟩
    · rw [val_eq, ha] at h1; cases h1
    · have hag : a = ⟨g, 0, none⟩ := by rw [val_eq, ha] at h1; injection h1 with h2; exact Option.some.inj h2
      have hw : stW w ((a.add (k * E.sz)).add j) 0 [u] = w.setCell ⟨g, k * E.sz + j, none⟩ u := by
        show w.setCell ((((a.add (k * E.sz)).add j)).add 0) u = _
        rw [add_add, add_add, hag, add_mk]; simp
      rw [hw]
      have hfl := fl_set E xs k j x x' u hx hj he
      unfold Ow Own World.ownsRow
      rw [List.length_set]
      refine ⟨by rw [hfl, List.length_set]; exact hl, Or.inr ⟨g, cap, _, h1, hbg, row_setCell hg, hnc, hcm, by simp [hcs], ?_⟩⟩
      rw [hfl, ← htake]
      simp [List.take_set]
end Go.Proofs.YtkjpmkopnkkbmaaGreatDoor
