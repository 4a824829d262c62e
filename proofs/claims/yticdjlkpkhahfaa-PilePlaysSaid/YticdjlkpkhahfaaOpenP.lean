/- Numbers and operations on stacks, as a statement's frame tells of them. -/
import Derived.Test.YticdjlkpkhahfaaOpen
import Derived.Test.YticdjlkpkhahfaaPlPlay
set_option maxRecDepth 100000
namespace Go.Proofs.Yticdjlkpkhahfaa
open Go.RowKit

theorem int_open {H : Type} (enc : TypeId × Value → H) (w : World) (base : Nat) (sp : Nat → Bool) (held : Bool) : ElOk enc Try.prog w base sp held intE T_int I64 := by
  refine ⟨by kernel_rfl, fun n cs y hl h => ?_⟩
  obtain ⟨m, rfl, _, hw⟩ := DataW.trod_int Try.underlying3 h
  exact ⟨m, rfl, hw⟩
theorem opp_open {H : Type} (enc : TypeId × Value → H) (w : World) (base : Nat) (sp : Nat → Bool) (held : Bool) : ElOk enc Try.prog w base sp held oppE T_hollowaylaw5_Op (fun o => ∃ xs, Rd intE w o.l xs) := by
  refine ⟨by kernel_rfl, fun n cs y hl h => ?_⟩
  obtain ⟨_, m, hf⟩ := open_fields Try.underlying39 h
  have hl : cs.length = 4 := hl
  obtain ⟨c0, c1, c2, c3, rfl⟩ : ∃ c0 c1 c2 c3, cs = [c0, c1, c2, c3] := by
    match cs, hl with
    | [c0, c1, c2, c3], _ => exact ⟨_, _, _, _, rfl⟩
  have s1 : Try.prog.cellsOf 3 = 1 := by kernel_rfl
  have s2 : Try.prog.cellsOf 22 = 1 := by kernel_rfl
  obtain ⟨z0, h0⟩ := hf 0 _ rfl
  obtain ⟨z1, h1⟩ := hf 1 _ rfl
  obtain ⟨z2, h2⟩ := hf 2 _ rfl
  obtain ⟨z3, h3⟩ := hf 3 _ rfl
  obtain ⟨x0, e0, _⟩ := DataW.trod_int Try.underlying3 h0
  obtain ⟨x1, e1, _⟩ := DataW.trod_int Try.underlying3 h1
  obtain ⟨x2, e2, _⟩ := DataW.trod_int Try.underlying3 h2
  obtain ⟨s, xs, e3, hr, _⟩ := open_cells Try.underlying22 (int_open enc w base sp held) h3
  simp [s1, s2] at e0 e1 e2 e3
  exact ⟨⟨x0, x1, x2, s⟩, by rw [e0, e1, e2, e3]; rfl, xs, hr⟩
end Go.Proofs.Yticdjlkpkhahfaa
