/- Words and operations on them, as a statement's frame tells of them. -/
import Derived.Test.YtijoigpggphajaaOpen
import Derived.Test.YtijoigpggphajaaWdPlay
set_option maxRecDepth 100000
namespace Go.Proofs.Ytijoigpggphajaa
open Go.RowKit

theorem wd_open {H : Type} (enc : TypeId × Value → H) (w : World) (base : Nat) (sp : Nat → Bool) (held : Bool) : ElOk enc Try.prog w base sp held wdE T_api_Word (fun _ => True) := by
  refine ⟨by kernel_rfl, fun n cs y hl h => ?_⟩
  obtain ⟨_, m, hf⟩ := open_fields Try.underlying74 h
  have hl : cs.length = 4 := hl
  obtain ⟨c0, c1, c2, c3, rfl⟩ : ∃ c0 c1 c2 c3, cs = [c0, c1, c2, c3] := by
    match cs, hl with
    | [c0, c1, c2, c3], _ => exact ⟨_, _, _, _, rfl⟩
  have s1 : Try.prog.cellsOf 3 = 1 := by kernel_rfl
  have s2 : Try.prog.cellsOf 9 = 1 := by kernel_rfl
  have s3 : Try.prog.cellsOf 4 = 1 := by kernel_rfl
  obtain ⟨z0, h0⟩ := hf 0 _ rfl
  obtain ⟨z1, h1⟩ := hf 1 _ rfl
  obtain ⟨z2, h2⟩ := hf 2 _ rfl
  obtain ⟨z3, h3⟩ := hf 3 _ rfl
  obtain ⟨x0, e0, _⟩ := DataW.trod_string Try.underlying9 h0
  obtain ⟨x1, e1, _⟩ := DataW.trod_int Try.underlying3 h1
  obtain ⟨x2, e2, _⟩ := DataW.trod_int Try.underlying3 h2
  obtain ⟨x3, e3, _⟩ := DataW.trod_bool Try.underlying4 h3
  simp [s1, s2, s3] at e0 e1 e2 e3
  exact ⟨⟨x0, x1, x2, x3⟩, by rw [e0, e1, e2, e3]; rfl, trivial⟩
theorem opv_open {H : Type} (enc : TypeId × Value → H) (w : World) (base : Nat) (sp : Nat → Bool) (held : Bool) : ElOk enc Try.prog w base sp held opvE T_hollowaylaw7_Op (fun _ => True) := by
  refine ⟨by kernel_rfl, fun n cs y hl h => ?_⟩
  obtain ⟨_, m, hf⟩ := open_fields Try.underlying81 h
  have hl : cs.length = 6 := hl
  obtain ⟨c0, c1, c2, c3, c4, c5, rfl⟩ : ∃ c0 c1 c2 c3 c4 c5, cs = [c0, c1, c2, c3, c4, c5] := by
    match cs, hl with
    | [c0, c1, c2, c3, c4, c5], _ => exact ⟨_, _, _, _, _, _, rfl⟩
  have s1 : Try.prog.cellsOf 3 = 1 := by kernel_rfl
  have s4 : Try.prog.cellsOf 74 = 4 := by kernel_rfl
  obtain ⟨z0, h0⟩ := hf 0 _ rfl
  obtain ⟨z1, h1⟩ := hf 1 _ rfl
  obtain ⟨z2, h2⟩ := hf 2 _ rfl
  obtain ⟨x0, e0, _⟩ := DataW.trod_int Try.underlying3 h0
  obtain ⟨x1, e1, _⟩ := DataW.trod_int Try.underlying3 h1
  obtain ⟨x, e2, _⟩ := (wd_open enc w base sp held).2 _ _ _ (by simp [s4, wdE]) h2
  simp [s1] at e0 e1
  simp [s4] at e2
  refine ⟨⟨x0, x1, x⟩, ?_, trivial⟩
  rw [e0, e1, e2]; rfl
end Go.Proofs.Ytijoigpggphajaa
