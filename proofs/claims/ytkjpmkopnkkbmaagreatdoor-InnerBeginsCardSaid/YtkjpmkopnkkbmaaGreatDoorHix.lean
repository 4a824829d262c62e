/- An element's cells, where more than one world is meant. -/
import Derived.Test.YtkjpmkopnkkbmaaGreatDoorHp
set_option maxRecDepth 100000
namespace Go.Proofs.YtkjpmkopnkkbmaaGreatDoor
open Go.RowKit

theorem Rd.hix {α : Type} {E : Enc α} {S : World → Prop} {w0 : World} {s : Sl} {xs : List α} {i : Int} {x : α} (hS : S w0) (h : ∀ w', S w' → Rd E w' s xs) (h0 : 0 ≤ i) (hi : xs[i.toNat]? = some x) {G : Addr → Prop}
    (k : ∀ a, s.ptr = some a → (∀ j u, (E.e x)[j]? = some u → held S ((a.add (i.toNat * E.sz)).add j) u) → G a) : ∃ a, s.ptr = some a ∧ 0 ≤ i ∧ i < (s.len : Int) ∧ G a := by
  obtain ⟨a, ha, _⟩ := (h w0 hS).at hi
  have hlt : i.toNat < xs.length := (List.getElem?_eq_some_iff.1 hi).1
  refine ⟨a, ha, h0, by rw [(h w0 hS).len]; omega, k a ha fun j u hu w' c => ?_⟩
  obtain ⟨a', ha', hc⟩ := (h w' c).at hi
  cases ha.symm.trans ha'
  exact hc j u hu
end Go.Proofs.YtkjpmkopnkkbmaaGreatDoor
