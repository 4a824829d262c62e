/- The packages ir, fold: their contracts. -/
import Derived.Test.YtblmoilneiffgaaGreatJ7
import Derived.Test.YtblmoilneiffgaaGreatJ5
import Derived.Test.YtblmoilneiffgaaGreatJB
import Derived.Test.YtblmoilneiffgaaGreatJ3

/- Package ir: what an instruction names, which traces may be. -/
set_option maxRecDepth 100000
namespace Go.Proofs.YtblmoilneiffgaaGreat
open Go.RowKit

end Go.Proofs.YtblmoilneiffgaaGreat

/- Maps of places (fold.Map), over the lifted text; what a pass over traces answers. -/
set_option maxRecDepth 100000
namespace Go.Proofs.YtblmoilneiffgaaGreat
open Go.RowKit

theorem insOk : EncOk Tryz.prog insE T_sl_api_Ins := EncOk.of (z := .agg #[.int .i64 0, .int .i64 0, .int .i64 0, .int .i64 0, .int .i64 0]) (by kernel_rfl) (by kernel_rfl) (by kernel_rfl)
theorem ousOk : EncOk Tryz.prog ouE T_sl_api_Out := EncOk.of (z := .agg #[.int .i64 0, .int .i64 0, .slice none 0 0, .slice none 0 0]) (by kernel_rfl) (by kernel_rfl) (by kernel_rfl)
theorem OusIs.mono {D D' : Nat → Prop} {w : World} {os : List OuC} {vs : List OuV} (h : OusIs D w os vs) (hd : ∀ k, D k → D' k) : OusIs D' w os vs :=
  ⟨h.1, fun i o v ho hv => by obtain ⟨a, b, c, d, e, f⟩ := h.2 i o v ho hv; exact ⟨a, b, c, d, fun k hk => hd _ (e k hk), fun k hk => hd _ (f k hk)⟩⟩
/-- A trace whose lists are its own, each in a block of its own, of D. -/
structure TrOw (D : Nat → Prop) (w : World) (t : TrP) (v : TrG) : Prop where
  nums : t.start = v.start ∧ t.slots = v.slots ∧ t.backs = v.backs ∧ t.grow = v.grow ∧ t.growBack = v.growBack ∧ t.last = v.last
  ins : Ow insE w t.ins v.ins
  outs : ∃ os, Ow ouE w t.outs os ∧ OusIs (fun k => D k ∧ t.ins.blk ≠ some k ∧ t.outs.blk ≠ some k ∧ t.cells.blk ≠ some k) w os v.outs
  cells : Ow intE w t.cells v.cells
  insD : ∀ k, t.ins.blk = some k → D k
  outsD : ∀ k, t.outs.blk = some k → D k ∧ t.ins.blk ≠ some k
  cellsD : ∀ k, t.cells.blk = some k → D k ∧ t.ins.blk ≠ some k ∧ t.outs.blk ≠ some k
theorem TrOw.is {D : Nat → Prop} {w : World} {t : TrP} {v : TrG} (h : TrOw D w t v) : TrIs D w t v := by
  obtain ⟨os, h1, h2⟩ := h.outs
  exact ⟨h.nums, h.ins.rd, ⟨os, h1.rd, h2.mono (fun k hk => hk.1)⟩, h.cells.rd, h.insD, fun k hk => (h.outsD k hk).1, fun k hk => (h.cellsD k hk).1⟩
theorem TrOw.chg {D S : Nat → Prop} {w w' : World} {t : TrP} {v : TrG} (h : TrOw D w t v) (c : Chg S w w') (hS : ∀ k, D k → ¬ S k) : TrOw D w' t v := by
  obtain ⟨os, h1, h2⟩ := h.outs
  exact ⟨h.nums, h.ins.chg c (fun k hk => hS _ (h.insD k hk)), ⟨os, h1.chg c (fun k hk => hS _ (h.outsD k hk).1), h2.chg c (fun k hk => hS _ hk.1)⟩, h.cells.chg c (fun k hk => hS _ (h.cellsD k hk).1), h.insD, h.outsD, h.cellsD⟩
theorem TrOw.no {D : Nat → Prop} {w w' : World} {t : TrP} {v : TrG} (h : TrOw D w t v) (c : Chg No w w') : TrOw D w' t v := h.chg c (fun _ _ h => h)
theorem TrOw.wid {D D' : Nat → Prop} {w : World} {t : TrP} {v : TrG} (h : TrOw D w t v) (hd : ∀ k, D k → D' k) : TrOw D' w t v := by
  obtain ⟨os, h1, h2⟩ := h.outs
  exact ⟨h.nums, h.ins, ⟨os, h1, h2.mono (fun k hk => ⟨hd _ hk.1, hk.2⟩)⟩, h.cells, fun k hk => hd _ (h.insD k hk), fun k hk => ⟨hd _ (h.outsD k hk).1, (h.outsD k hk).2⟩, fun k hk => ⟨hd _ (h.cellsD k hk).1, (h.cellsD k hk).2⟩⟩
end Go.Proofs.YtblmoilneiffgaaGreat
