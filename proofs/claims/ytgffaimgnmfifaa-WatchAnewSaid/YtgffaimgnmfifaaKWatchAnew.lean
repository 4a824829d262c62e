/- The walk of WatchAnew. -/
import Derived.Test.YtgffaimgnmfifaaJS
import Derived.Test.YtgffaimgnmfifaaJ4

/- Numbers as elements of a slice, as a statement's frame tells of them. -/
set_option maxRecDepth 100000
namespace Go.Proofs.Ytgffaimgnmfifaa
open Go.RowKit

theorem int_open {H : Type} (enc : TypeId × Value → H) (w : World) (base : Nat) (sp : Nat → Bool) (held : Bool) : ElOk enc Try.prog w base sp held intE T_int (fun _ => True) := by
  refine ⟨by kernel_rfl, fun n cs y hl h => ?_⟩
  obtain ⟨m, rfl, _, hw⟩ := DataW.trod_int Try.underlying3 h
  exact ⟨m, rfl, trivial⟩
theorem blkLt {p : Option Addr} {n len cap : Nat} (h : ∀ x ∈ p, x.block < n) : ∀ k, (⟨p, len, cap⟩ : Sl).blk = some k → k < n := by
  intro k hk
  cases p with
  | none => cases hk
  | some a =>
    have e : a.block = k := Option.some.inj hk
    rw [← e]; exact h a rfl
end Go.Proofs.Ytgffaimgnmfifaa
