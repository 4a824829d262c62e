/- From what a statement's frame tells of an argument that is a slice of numbers to what the walks ask of it. -/
import Derived.Test.YtaikagkakajdfaaInts
namespace Go.Proofs.Ytaikagkakajdfaa
open Go.RowKit

theorem rdI_of_row {w : World} {a : Option Addr} {len cap : Nat} {zs : List Int}
    (h : (a = none ∧ len = 0 ∧ cap = 0 ∧ zs = []) ∨ ∃ x, a = some x ∧ len ≤ cap ∧ cap ≤ maxLen ∧ zs.length = cap ∧ (∀ i, i < zs.length → w.cell? (x.add i) = some (.int .i64 (zs.getD i 0))) ∧ ∀ n ∈ zs, (Lit.int .i64 n).wf = true) :
    RdI w (.slice a len cap) (zs.take len) := by
  rcases h with ⟨rfl, rfl, rfl, rfl⟩ | ⟨x, rfl, h1, h2, h3, h4, _⟩
  · exact RdC.nil w
  · have hl : (zs.take len).length = len := by rw [List.length_take]; omega
    refine ⟨some x, cap, by rw [hl], by omega, h2, fun h => by simp at h, fun j u hu => ⟨x, rfl, ?_⟩⟩
    have hj : j < len := by
      obtain ⟨hlt, _⟩ := List.getElem?_eq_some_iff.1 hu
      rw [is_length, hl] at hlt; exact hlt
    rw [h4 j (by omega)]
    rw [is_get _ _ (by omega)] at hu
    rw [← hu]
    congr 2
    simp [List.getD_eq_getElem?_getD, hj]
theorem Chg.done {w w' : World} (h : Chg No w w') : Below w.heap.size w w' := h.below (fun _ _ h => h) (Nat.le_refl _)
end Go.Proofs.Ytaikagkakajdfaa
