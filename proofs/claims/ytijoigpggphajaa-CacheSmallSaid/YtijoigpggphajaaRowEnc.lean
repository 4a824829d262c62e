/- From what a statement's frame tells of an argument that is a slice of numbers to what the walks ask of it. -/
import Derived.Test.YtijoigpggphajaaCaLaw
namespace Go.Proofs.Ytijoigpggphajaa
open Go.RowKit

theorem fl_int : ∀ xs : List Int, fl intE xs = xs.map fun n => Value.int .i64 n
  | [] => rfl
  | x :: xs => by rw [fl_cons, fl_int xs]; rfl
theorem rd_of_row {w : World} {a : Option Addr} {len cap : Nat} {zs : List Int}
    (h : (a = none ∧ len = 0 ∧ cap = 0 ∧ zs = []) ∨ ∃ x, a = some x ∧ len ≤ cap ∧ cap ≤ maxLen ∧ zs.length = cap ∧ (∀ i, i < zs.length → w.cell? (x.add i) = some (.int .i64 (zs.getD i 0))) ∧ ∀ n ∈ zs, (Lit.int .i64 n).wf = true) :
    Rd intE w ⟨a, len, cap⟩ (zs.take len) := by
  rcases h with ⟨rfl, rfl, rfl, rfl⟩ | ⟨x, rfl, h1, h2, h3, h4, _⟩
  · exact Rd.nil intE w
  · have hl : (zs.take len).length = len := by rw [List.length_take]; omega
    refine ⟨some x, cap, by rw [hl, val_eq], by omega, h2, fun h => by simp at h, fun j u hu => ⟨x, rfl, ?_⟩⟩
    rw [fl_int, List.getElem?_map] at hu
    have hj : j < len := by
      by_cases hj : j < len
      · exact hj
      · rw [List.getElem?_eq_none (by omega)] at hu; cases hu
    rw [h4 j (by omega)]
    rw [List.getElem?_take, if_pos hj, List.getElem?_eq_getElem (by omega)] at hu
    rw [List.getD_eq_getElem?_getD, List.getElem?_eq_getElem (by omega)]
    exact hu
end Go.Proofs.Ytijoigpggphajaa
