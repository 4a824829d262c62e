/- A log of what came behind what. -/
import Derived.Test.YtkjpmkopnkkbmaaGreatDoorHp
set_option maxRecDepth 100000
namespace Go.Proofs.YtkjpmkopnkkbmaaGreatDoor
open Go.RowKit

/-! ### A log -/
/-- What came behind what: each entry has a range of its own of the blocks that are new. -/
def ZL (E : Nat × List Value → Nat → Nat → World → Prop) (lo : Nat) (lg : List (Nat × List Value)) (w : World) : Prop :=
  ∃ rng : Nat × List Value → Nat × Nat, (∀ e ∈ lg, E e (rng e).1 (rng e).2 w ∧ lo ≤ (rng e).1 ∧ (rng e).2 ≤ w.heap.size) ∧ ∀ e ∈ lg, ∀ e' ∈ lg, e ≠ e' → (rng e).2 ≤ (rng e').1 ∨ (rng e').2 ≤ (rng e).1
theorem ZL.nil (E : Nat × List Value → Nat → Nat → World → Prop) (lo : Nat) (w : World) : ZL E lo [] w := ⟨fun _ => (0, 0), fun e h => by simp at h, fun e h => by simp at h⟩
open Classical in
theorem ZL.snoc {E : Nat × List Value → Nat → Nat → World → Prop} {lo : Nat} {lg : List (Nat × List Value)} {w w' : World} (h : ZL E lo lg w) (hlo : lo ≤ w.heap.size) (c : w.heap.size ≤ w'.heap.size) (up : ∀ e a b, E e a b w → E e a b w') {e : Nat × List Value} (he : E e w.heap.size w'.heap.size w') : ZL E lo (lg ++ [e]) w' := by
  obtain ⟨rng, h1, h2⟩ := h
  by_cases hm : e ∈ lg
  · refine ⟨rng, fun x hx => ?_, fun x hx y hy => ?_⟩
    · have hx : x ∈ lg := by
        rcases List.mem_append.1 hx with hx | hx
        · exact hx
        · have : x = e := by simpa using hx
          rw [this]; exact hm
      obtain ⟨g1, g2, g3⟩ := h1 x hx
      exact ⟨up _ _ _ g1, g2, by omega⟩
    · have hx : x ∈ lg := by
        rcases List.mem_append.1 hx with hx | hx
        · exact hx
        · have : x = e := by simpa using hx
          rw [this]; exact hm
      have hy : y ∈ lg := by
        rcases List.mem_append.1 hy with hy | hy
        · exact hy
        · have : y = e := by simpa using hy
          rw [this]; exact hm
      exact h2 x hx y hy
  · have new : ∀ x, x ∈ lg → x ≠ e := fun x hx he => hm (he ▸ hx)
    refine ⟨fun x => if x = e then (w.heap.size, w'.heap.size) else rng x, fun x hx => ?_, fun x hx y hy hxy => ?_⟩
    · by_cases hxe : x = e
      · simp only [if_pos hxe]; rw [hxe]; exact ⟨he, hlo, Nat.le_refl _⟩
      · have hx : x ∈ lg := by
          rcases List.mem_append.1 hx with hx | hx
          · exact hx
          · exact absurd (by simpa using hx) hxe
        obtain ⟨g1, g2, g3⟩ := h1 x hx
        simp only [if_neg hxe]
        exact ⟨up _ _ _ g1, g2, by omega⟩
    · by_cases hxe : x = e
      · have hye : y ≠ e := fun h => hxy (by rw [hxe, h])
        have hy : y ∈ lg := by
          rcases List.mem_append.1 hy with hy | hy
          · exact hy
          · exact absurd (by simpa using hy) hye
        obtain ⟨g1, g2, g3⟩ := h1 y hy
        simp only [if_pos hxe, if_neg hye]
        exact Or.inr g3
      · have hx : x ∈ lg := by
          rcases List.mem_append.1 hx with hx | hx
          · exact hx
          · exact absurd (by simpa using hx) hxe
        by_cases hye : y = e
        · obtain ⟨g1, g2, g3⟩ := h1 x hx
          simp only [if_pos hye, if_neg hxe]
          exact Or.inl g3
        · have hy : y ∈ lg := by
            rcases List.mem_append.1 hy with hy | hy
            · exact hy
            · exact absurd (by simpa using hy) hye
          simp only [if_neg hxe, if_neg hye]
          exact h2 x hx y hy hxy
end Go.Proofs.YtkjpmkopnkkbmaaGreatDoor
