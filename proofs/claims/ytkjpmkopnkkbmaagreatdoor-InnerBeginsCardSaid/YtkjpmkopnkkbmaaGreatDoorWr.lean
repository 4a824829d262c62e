/- Numbers that fit are not wrapped. -/
import Derived.Test.YtkjpmkopnkkbmaaGreatDoorHp
namespace Go.Proofs.YtkjpmkopnkkbmaaGreatDoor
open Go.RowKit

theorem wr_of {x : Int} (h : -9223372036854775808 ≤ x) (h' : x ≤ 9223372036854775807) : wr x = x := IntWalk.i64_in _ (by omega)
theorem wrL_all : ∀ (vs cs done : List Value) (k : Nat), cs.length = vs.length → k = done.length → wrL (done ++ cs) k vs = done ++ vs
  | [], cs, done, k, h, _ => by
    have : cs = [] := List.eq_nil_of_length_eq_zero (by simpa using h)
    subst this; rfl
  | v :: r, [], done, k, h, _ => by simp at h
  | v :: r, c :: cs, done, k, h, hk => by
    unfold wrL
    subst hk
    have := wrL_all r cs (done ++ [v]) (done.length + 1) (by simpa using h) (by simp)
    simpa using this
theorem wrL_whole {vs cs : List Value} (h : cs.length = vs.length) : wrL cs 0 vs = vs := by
  have := wrL_all vs cs [] 0 h rfl
  simpa using this
end Go.Proofs.YtkjpmkopnkkbmaaGreatDoor
