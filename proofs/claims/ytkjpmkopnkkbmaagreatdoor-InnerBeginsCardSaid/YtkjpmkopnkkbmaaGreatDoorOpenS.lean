/- Numbers and machines, as a statement's frame tells of them. -/
import Derived.Test.YtkjpmkopnkkbmaaGreatDoorOpen
import Derived.Test.YtkjpmkopnkkbmaaGreatDoorStA
import Derived.Test.YtkjpmkopnkkbmaaGreatDoorCellLaws
set_option maxRecDepth 100000
namespace Go.Proofs.YtkjpmkopnkkbmaaGreatDoor
open Go.RowKit Go.WideShapes

theorem int_open {H : Type} (enc : TypeId × Value → H) (w : World) (base : Nat) (sp : Nat → Bool) (held : Bool) : ElOk enc Tryz.prog w base sp held intE T_int Cn.In := by
  refine ⟨by kernel_rfl, fun n cs y hl h => ?_⟩
  obtain ⟨m, rfl, _, hw⟩ := DataW.trod_int Tryz.underlying3 h
  have hw : I64 m := hw
  exact ⟨m, rfl, hw.le⟩
theorem state_open {H : Type} (enc : TypeId × Value → H) (W : World) {v : Value} {d : DataW H} {p : List MemPlace} (hv : Value.okWide Tryz.prog W .any 0 T_api_State v) (h : DataW.Trod enc Tryz.prog W 0 (fun _ => true) true T_api_State v d p) :
    ∃ S : StC, v = .agg (stC S).toArray ∧ ∃ s : StV, StIs (fun _ => True) W S s ∧ (∀ x ∈ s.stack, Cn.In x) ∧ (∀ x ∈ s.back, Cn.In x) ∧ (∀ x ∈ s.mem, Cn.In x) ∧ Cn.In s.handler := by
  obtain ⟨cs, rfl, hsz⟩ := okWide_struct Tryz.underlying24 hv
  obtain ⟨n, hn⟩ := h
  obtain ⟨_, m, hf⟩ := open_fields Tryz.underlying24 hn
  have hcc : Tryz.prog.cellsOf T_api_State = 10 := by kernel_rfl
  rw [hcc] at hsz
  obtain ⟨l, rfl⟩ : ∃ l : List Value, cs = l.toArray := ⟨cs.toList, by simp⟩
  have hl : l.length = 10 := by simpa using hsz
  obtain ⟨c0, c1, c2, c3, c4, c5, c6, c7, c8, c9, rfl⟩ : ∃ c0 c1 c2 c3 c4 c5 c6 c7 c8 c9, l = [c0, c1, c2, c3, c4, c5, c6, c7, c8, c9] := by
    match l, hl with
    | [c0, c1, c2, c3, c4, c5, c6, c7, c8, c9], _ => exact ⟨_, _, _, _, _, _, _, _, _, _, rfl⟩
  have s1 : Tryz.prog.cellsOf 3 = 1 := by kernel_rfl
  have s2 : Tryz.prog.cellsOf 22 = 1 := by kernel_rfl
  have s3 : Tryz.prog.cellsOf 9 = 1 := by kernel_rfl
  obtain ⟨z0, h0⟩ := hf 0 _ rfl
  obtain ⟨z1, h1⟩ := hf 1 _ rfl
  obtain ⟨z2, h2⟩ := hf 2 _ rfl
  obtain ⟨z3, h3⟩ := hf 3 _ rfl
  obtain ⟨z4, h4⟩ := hf 4 _ rfl
  obtain ⟨z5, h5⟩ := hf 5 _ rfl
  obtain ⟨z6, h6⟩ := hf 6 _ rfl
  obtain ⟨z7, h7⟩ := hf 7 _ rfl
  obtain ⟨z8, h8⟩ := hf 8 _ rfl
  obtain ⟨z9, h9⟩ := hf 9 _ rfl
  obtain ⟨x0, e0, _⟩ := DataW.trod_int Tryz.underlying3 h0
  obtain ⟨x1, e1, _, hw1⟩ := DataW.trod_int Tryz.underlying3 h1
  have hw1 : I64 x1 := hw1
  obtain ⟨q2, l2, e2, r2, i2⟩ := open_cells Tryz.underlying22 (int_open enc W 0 (fun _ => true) true) h2
  obtain ⟨q3, l3, e3, r3, i3⟩ := open_cells Tryz.underlying22 (int_open enc W 0 (fun _ => true) true) h3
  obtain ⟨q4, l4, e4, r4, i4⟩ := open_cells Tryz.underlying22 (int_open enc W 0 (fun _ => true) true) h4
  obtain ⟨x5, e5, _⟩ := DataW.trod_string Tryz.underlying9 h5
  obtain ⟨x6, e6, _⟩ := DataW.trod_string Tryz.underlying9 h6
  obtain ⟨x7, e7, _⟩ := DataW.trod_int Tryz.underlying3 h7
  obtain ⟨x8, e8, _⟩ := DataW.trod_int Tryz.underlying3 h8
  obtain ⟨x9, e9, _⟩ := DataW.trod_int Tryz.underlying3 h9
  simp [Value.cells, s1, s2, s3] at e0 e1 e2 e3 e4 e5 e6 e7 e8 e9
  exact ⟨⟨x0, x1, q2, q3, q4, x5, x6, x7, x8, x9⟩, by rw [e0, e1, e2, e3, e4, e5, e6, e7, e8, e9]; rfl, ⟨x0, x1, l2, l3, l4, x5, x6, x7, x8, x9⟩, ⟨⟨rfl, rfl, rfl, rfl, rfl, rfl, rfl⟩, r2, r3, r4, fun _ _ => trivial, fun _ _ => trivial, fun _ _ => trivial⟩, i2, i3, i4, hw1.le⟩
end Go.Proofs.YtkjpmkopnkkbmaaGreatDoor
